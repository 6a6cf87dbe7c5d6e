/- What bytes are is put as these bytes. -/
import Derived.Test.YtjblpejekcbokaaLaw03e
import Derived.Test.YtjblpejekcbokaaBack4
import Derived.Test.YtjblpejekcbokaaLaw03d
namespace Go.Proofs.Ytjblpejekcbokaa
open Go.RowKit
set_option maxHeartbeats 3200000
set_option linter.unusedVariables false
set_option linter.unusedSimpArgs false

theorem RdX.alloc {w : World} {a : Option Addr} {l : List Ext} (h : RdX w a l) (o : Obj) : RdX (w.alloc o) a l := h.below ((Below.refl _ _).alloc (Nat.le_refl _) o)
theorem gerrS_nil : gerrS [] = 30 := by decide
theorem gerrInd_nil : gerrInd [] = 30 := (ind_no (not_ind_len (by decide))).2
theorem gerrL_nil : gerrL [] = 30 := (node_no (not_node_len (by decide))).2
theorem gotInd_none {b : List UInt8} (h : gerrInd b = 30) : gotInd b = ⟨0, 0, 0, 0, []⟩ := by
  unfold gerrInd at h
  split at h
  · cases h
  · rw [gotInd, if_neg ‹_›]
theorem GetInode_none (w : World) (a : Option Addr) (c N : Nat) (l : List UInt8) (hN : N = l.length) (hl : l.length ≤ 200000000000000) (hr : RdB w a l) (h : gerrInd l = 30) :
    Calls Try.prog 28 #[.slice a N c] w fun e w' => ∃ A c', e = .returned (.tuple #[.agg #[.int .u8 0, .int .i64 0, .int .i64 0, .slice A 0 c', .int .i64 0], .int .i64 30]) ∧ Below w.heap.size w w' := by
  have := GetInode_any w a c N l hN hl hr
  rw [h, gotInd_none h] at this
  exact this.mono fun e w' ⟨A, c', h1, _, h3⟩ => ⟨A, c', h1, h3⟩
set_option maxRecDepth 100000 in
theorem again_yyy (w : World) (a : Option Addr) (c : Nat) (l : List UInt8) (hl : l.length ≤ 10000) (hr : RdB w a l) (hS : gerrS l = 0) (hI : gerrInd l = 0) (hN : gerrL l = 0) :
    Calls Try.prog 35 #[.slice a l.length c] w fun e w' => e = .returned (.bool true) ∧ Below w.heap.size w w' := by
  have G1 := fun w a c hr => GetSuper_any w a c l.length l rfl (by omega) hr
  have P1 := fun w => PutSuper_any w (gotS l)
  rw [hS] at G1
  rw [(sup_again l hS).2, show errS (gotS l) = 0 from if_pos (sup_again l hS).1] at P1
  generalize gotS l = S at G1 P1
  obtain ⟨b, e, q, t⟩ := S
  simp only [Sup.val] at G1 P1
  have I1 := fun w a c hr => GetInode_any w a c l.length l rfl (by omega) hr
  have J1 := fun w a c hr => PutInode_any w (gotInd l) a c (gotInd_in l) hr
  rw [hI] at I1
  rw [(ind_again l hI).2, show errInd (gotInd l) = 0 from if_pos (ind_again l hI).1] at J1
  generalize gotInd l = nn at I1 J1
  obtain ⟨k, ln, sz, nd, dir⟩ := nn
  simp only [Ind.val, indCells] at I1 J1
  have N1 := fun w a c hr => GetNode_any w a c l.length l rfl (by omega) hr
  have hln := gotL_len l
  have M1 := fun w a c hr => PutNode_any w a c _ (gotL l) rfl (by omega) hr (gotL_okX l)
  have R1 := fun w a c hr => Right_any w a c _ (gotL l) rfl (by omega) hr (gotL_okX l)
  have hR : rightX (gotL l) = true := by have := (node_again l hN).1; simp only [okL, Bool.and_eq_true] at this; exact this.2
  rw [hR] at R1
  rw [hN] at N1
  rw [(node_again l hN).2, show errL (gotL l) = 0 from if_pos (node_again l hN).1] at M1
  generalize gotL l = X at N1 M1 R1 hln
  clear hR
  clear hS hI hN
  go_enter Try.func35, Try.ntmps35
  go_wp2_with fail
  refine (G1 _ _ _ hr).mono ?_
  rintro e w1 ⟨rfl, b1⟩
  have bw1 := (Below.refl w.heap.size w).trans (b1.mono (Below.refl w.heap.size w).size)
  replace hr := hr.below b1
  clear b1
  go_wp2_with fail
  refine (P1 _).mono ?_
  rintro e w2 ⟨A2, c2, rfl, g2, b2⟩
  have bw2 := (bw1.alloc bw1.size _).trans (b2.mono (by have := bw1.size; simp; omega))
  replace hr := (hr.below ((Below.refl _ _).alloc (Nat.le_refl _) _)).below b2
  clear b2
  have h2 := g2.rd
  go_wp2_with fail
  refine (SameBytes_self _ _ _ _ _ _ _ l rfl rfl h2 hr).mono ?_
  rintro e w' ⟨rfl, rfl⟩
  clear h2 g2
  go_wp2_with fail
  refine (I1 _ _ _ hr).mono ?_
  rintro e w3 ⟨A3, c3, rfl, g3, b3⟩
  have bw3 := bw2.trans (b3.mono bw2.size)
  replace hr := hr.below b3
  clear b3
  have h3 := g3.rd
  go_wp2_with fail
  refine (J1 _ _ _ (h3.alloc _)).mono ?_
  rintro e w4 ⟨A4, c4, rfl, g4, b4⟩
  have bw4 := (bw3.alloc bw3.size _).trans (b4.mono (by have := bw3.size; simp; omega))
  replace hr := (hr.below ((Below.refl _ _).alloc (Nat.le_refl _) _)).below b4
  clear b4
  have h4 := g4.rd
  go_wp2_with fail
  refine (SameBytes_self _ _ _ _ _ _ _ l rfl rfl h4 hr).mono ?_
  rintro e w' ⟨rfl, rfl⟩
  clear h3 g3 h4 g4
  go_wp2_with fail
  refine (N1 _ _ _ hr).mono ?_
  rintro e w5 ⟨A5, c5, rfl, g5, b5⟩
  have bw5 := bw4.trans (b5.mono bw4.size)
  replace hr := hr.below b5
  clear b5
  have h5 := g5.rd
  go_wp2_with fail
  refine (M1 _ _ _ h5).mono ?_
  rintro e w6 ⟨A6, c6, rfl, g6, b6⟩
  have bw6 := bw5.trans (b6.mono bw5.size)
  replace hr := hr.below b6
  replace h5 := h5.below b6
  clear b6
  have h6 := g6.rd
  go_wp2_with fail
  refine (R1 _ _ _ h5).mono ?_
  rintro e w7 ⟨rfl, b7⟩
  have bw7 := bw6.trans (b7.mono bw6.size)
  replace hr := hr.below b7
  replace h5 := h5.below b7
  replace h6 := h6.below b7
  clear b7
  go_wp2_with fail
  refine (SameBytes_self _ _ _ _ _ _ _ l rfl rfl h6 hr).mono ?_
  rintro e w' ⟨rfl, rfl⟩
  go_wp2
  go_ret
  exact ⟨rfl, bw7⟩
set_option maxRecDepth 100000 in
theorem again_yyn (w : World) (a : Option Addr) (c : Nat) (l : List UInt8) (hl : l.length ≤ 10000) (hr : RdB w a l) (hS : gerrS l = 0) (hI : gerrInd l = 0) (hN : gerrL l = 30) :
    Calls Try.prog 35 #[.slice a l.length c] w fun e w' => e = .returned (.bool true) ∧ Below w.heap.size w w' := by
  have G1 := fun w a c hr => GetSuper_any w a c l.length l rfl (by omega) hr
  have P1 := fun w => PutSuper_any w (gotS l)
  rw [hS] at G1
  rw [(sup_again l hS).2, show errS (gotS l) = 0 from if_pos (sup_again l hS).1] at P1
  generalize gotS l = S at G1 P1
  obtain ⟨b, e, q, t⟩ := S
  simp only [Sup.val] at G1 P1
  have I1 := fun w a c hr => GetInode_any w a c l.length l rfl (by omega) hr
  have J1 := fun w a c hr => PutInode_any w (gotInd l) a c (gotInd_in l) hr
  rw [hI] at I1
  rw [(ind_again l hI).2, show errInd (gotInd l) = 0 from if_pos (ind_again l hI).1] at J1
  generalize gotInd l = nn at I1 J1
  obtain ⟨k, ln, sz, nd, dir⟩ := nn
  simp only [Ind.val, indCells] at I1 J1
  have N1 := fun w a c hr => GetNode_none w a c l.length l rfl (by omega) hr hN
  clear hS hI hN
  go_enter Try.func35, Try.ntmps35
  go_wp2_with fail
  refine (G1 _ _ _ hr).mono ?_
  rintro e w1 ⟨rfl, b1⟩
  have bw1 := (Below.refl w.heap.size w).trans (b1.mono (Below.refl w.heap.size w).size)
  replace hr := hr.below b1
  clear b1
  go_wp2_with fail
  refine (P1 _).mono ?_
  rintro e w2 ⟨A2, c2, rfl, g2, b2⟩
  have bw2 := (bw1.alloc bw1.size _).trans (b2.mono (by have := bw1.size; simp; omega))
  replace hr := (hr.below ((Below.refl _ _).alloc (Nat.le_refl _) _)).below b2
  clear b2
  have h2 := g2.rd
  go_wp2_with fail
  refine (SameBytes_self _ _ _ _ _ _ _ l rfl rfl h2 hr).mono ?_
  rintro e w' ⟨rfl, rfl⟩
  clear h2 g2
  go_wp2_with fail
  refine (I1 _ _ _ hr).mono ?_
  rintro e w3 ⟨A3, c3, rfl, g3, b3⟩
  have bw3 := bw2.trans (b3.mono bw2.size)
  replace hr := hr.below b3
  clear b3
  have h3 := g3.rd
  go_wp2_with fail
  refine (J1 _ _ _ (h3.alloc _)).mono ?_
  rintro e w4 ⟨A4, c4, rfl, g4, b4⟩
  have bw4 := (bw3.alloc bw3.size _).trans (b4.mono (by have := bw3.size; simp; omega))
  replace hr := (hr.below ((Below.refl _ _).alloc (Nat.le_refl _) _)).below b4
  clear b4
  have h4 := g4.rd
  go_wp2_with fail
  refine (SameBytes_self _ _ _ _ _ _ _ l rfl rfl h4 hr).mono ?_
  rintro e w' ⟨rfl, rfl⟩
  clear h3 g3 h4 g4
  go_wp2_with fail
  refine (N1 _ _ _ hr).mono ?_
  rintro e w5 ⟨A5, c5, rfl, b5⟩
  have bw5 := bw4.trans (b5.mono bw4.size)
  replace hr := hr.below b5
  clear b5
  go_wp2
  go_ret
  exact ⟨rfl, bw5⟩
set_option maxRecDepth 100000 in
theorem again_yny (w : World) (a : Option Addr) (c : Nat) (l : List UInt8) (hl : l.length ≤ 10000) (hr : RdB w a l) (hS : gerrS l = 0) (hI : gerrInd l = 30) (hN : gerrL l = 0) :
    Calls Try.prog 35 #[.slice a l.length c] w fun e w' => e = .returned (.bool true) ∧ Below w.heap.size w w' := by
  have G1 := fun w a c hr => GetSuper_any w a c l.length l rfl (by omega) hr
  have P1 := fun w => PutSuper_any w (gotS l)
  rw [hS] at G1
  rw [(sup_again l hS).2, show errS (gotS l) = 0 from if_pos (sup_again l hS).1] at P1
  generalize gotS l = S at G1 P1
  obtain ⟨b, e, q, t⟩ := S
  simp only [Sup.val] at G1 P1
  have I1 := fun w a c hr => GetInode_none w a c l.length l rfl (by omega) hr hI
  have N1 := fun w a c hr => GetNode_any w a c l.length l rfl (by omega) hr
  have hln := gotL_len l
  have M1 := fun w a c hr => PutNode_any w a c _ (gotL l) rfl (by omega) hr (gotL_okX l)
  have R1 := fun w a c hr => Right_any w a c _ (gotL l) rfl (by omega) hr (gotL_okX l)
  have hR : rightX (gotL l) = true := by have := (node_again l hN).1; simp only [okL, Bool.and_eq_true] at this; exact this.2
  rw [hR] at R1
  rw [hN] at N1
  rw [(node_again l hN).2, show errL (gotL l) = 0 from if_pos (node_again l hN).1] at M1
  generalize gotL l = X at N1 M1 R1 hln
  clear hR
  clear hS hI hN
  go_enter Try.func35, Try.ntmps35
  go_wp2_with fail
  refine (G1 _ _ _ hr).mono ?_
  rintro e w1 ⟨rfl, b1⟩
  have bw1 := (Below.refl w.heap.size w).trans (b1.mono (Below.refl w.heap.size w).size)
  replace hr := hr.below b1
  clear b1
  go_wp2_with fail
  refine (P1 _).mono ?_
  rintro e w2 ⟨A2, c2, rfl, g2, b2⟩
  have bw2 := (bw1.alloc bw1.size _).trans (b2.mono (by have := bw1.size; simp; omega))
  replace hr := (hr.below ((Below.refl _ _).alloc (Nat.le_refl _) _)).below b2
  clear b2
  have h2 := g2.rd
  go_wp2_with fail
  refine (SameBytes_self _ _ _ _ _ _ _ l rfl rfl h2 hr).mono ?_
  rintro e w' ⟨rfl, rfl⟩
  clear h2 g2
  go_wp2_with fail
  refine (I1 _ _ _ hr).mono ?_
  rintro e w3 ⟨A3, c3, rfl, b3⟩
  have bw3 := bw2.trans (b3.mono bw2.size)
  replace hr := hr.below b3
  clear b3
  go_wp2_with fail
  refine (N1 _ _ _ (hr.alloc _)).mono ?_
  rintro e w4 ⟨A5, c5, rfl, g5, b4⟩
  have bw4 := (bw3.alloc bw3.size _).trans (b4.mono (by have := bw3.size; simp; omega))
  replace hr := (hr.below ((Below.refl _ _).alloc (Nat.le_refl _) _)).below b4
  clear b4
  have h5 := g5.rd
  go_wp2_with fail
  refine (M1 _ _ _ h5).mono ?_
  rintro e w5 ⟨A6, c6, rfl, g6, b5⟩
  have bw5 := bw4.trans (b5.mono bw4.size)
  replace hr := hr.below b5
  replace h5 := h5.below b5
  clear b5
  have h6 := g6.rd
  go_wp2_with fail
  refine (R1 _ _ _ h5).mono ?_
  rintro e w6 ⟨rfl, b6⟩
  have bw6 := bw5.trans (b6.mono bw5.size)
  replace hr := hr.below b6
  replace h5 := h5.below b6
  replace h6 := h6.below b6
  clear b6
  go_wp2_with fail
  refine (SameBytes_self _ _ _ _ _ _ _ l rfl rfl h6 hr).mono ?_
  rintro e w' ⟨rfl, rfl⟩
  go_wp2
  go_ret
  exact ⟨rfl, bw6⟩
set_option maxRecDepth 100000 in
theorem again_ynn (w : World) (a : Option Addr) (c : Nat) (l : List UInt8) (hl : l.length ≤ 10000) (hr : RdB w a l) (hS : gerrS l = 0) (hI : gerrInd l = 30) (hN : gerrL l = 30) :
    Calls Try.prog 35 #[.slice a l.length c] w fun e w' => e = .returned (.bool true) ∧ Below w.heap.size w w' := by
  have G1 := fun w a c hr => GetSuper_any w a c l.length l rfl (by omega) hr
  have P1 := fun w => PutSuper_any w (gotS l)
  rw [hS] at G1
  rw [(sup_again l hS).2, show errS (gotS l) = 0 from if_pos (sup_again l hS).1] at P1
  generalize gotS l = S at G1 P1
  obtain ⟨b, e, q, t⟩ := S
  simp only [Sup.val] at G1 P1
  have I1 := fun w a c hr => GetInode_none w a c l.length l rfl (by omega) hr hI
  have N1 := fun w a c hr => GetNode_none w a c l.length l rfl (by omega) hr hN
  clear hS hI hN
  go_enter Try.func35, Try.ntmps35
  go_wp2_with fail
  refine (G1 _ _ _ hr).mono ?_
  rintro e w1 ⟨rfl, b1⟩
  have bw1 := (Below.refl w.heap.size w).trans (b1.mono (Below.refl w.heap.size w).size)
  replace hr := hr.below b1
  clear b1
  go_wp2_with fail
  refine (P1 _).mono ?_
  rintro e w2 ⟨A2, c2, rfl, g2, b2⟩
  have bw2 := (bw1.alloc bw1.size _).trans (b2.mono (by have := bw1.size; simp; omega))
  replace hr := (hr.below ((Below.refl _ _).alloc (Nat.le_refl _) _)).below b2
  clear b2
  have h2 := g2.rd
  go_wp2_with fail
  refine (SameBytes_self _ _ _ _ _ _ _ l rfl rfl h2 hr).mono ?_
  rintro e w' ⟨rfl, rfl⟩
  clear h2 g2
  go_wp2_with fail
  refine (I1 _ _ _ hr).mono ?_
  rintro e w3 ⟨A3, c3, rfl, b3⟩
  have bw3 := bw2.trans (b3.mono bw2.size)
  replace hr := hr.below b3
  clear b3
  go_wp2_with fail
  refine (N1 _ _ _ (hr.alloc _)).mono ?_
  rintro e w4 ⟨A5, c5, rfl, b4⟩
  have bw4 := (bw3.alloc bw3.size _).trans (b4.mono (by have := bw3.size; simp; omega))
  replace hr := (hr.below ((Below.refl _ _).alloc (Nat.le_refl _) _)).below b4
  clear b4
  go_wp2
  go_ret
  exact ⟨rfl, bw4⟩
set_option maxRecDepth 100000 in
theorem again_nyy (w : World) (a : Option Addr) (c : Nat) (l : List UInt8) (hl : l.length ≤ 10000) (hr : RdB w a l) (hS : gerrS l = 30) (hI : gerrInd l = 0) (hN : gerrL l = 0) :
    Calls Try.prog 35 #[.slice a l.length c] w fun e w' => e = .returned (.bool true) ∧ Below w.heap.size w w' := by
  have G1 := fun w a c hr => GetSuper_none w a c l.length l rfl (by omega) hr hS
  have I1 := fun w a c hr => GetInode_any w a c l.length l rfl (by omega) hr
  have J1 := fun w a c hr => PutInode_any w (gotInd l) a c (gotInd_in l) hr
  rw [hI] at I1
  rw [(ind_again l hI).2, show errInd (gotInd l) = 0 from if_pos (ind_again l hI).1] at J1
  generalize gotInd l = nn at I1 J1
  obtain ⟨k, ln, sz, nd, dir⟩ := nn
  simp only [Ind.val, indCells] at I1 J1
  have N1 := fun w a c hr => GetNode_any w a c l.length l rfl (by omega) hr
  have hln := gotL_len l
  have M1 := fun w a c hr => PutNode_any w a c _ (gotL l) rfl (by omega) hr (gotL_okX l)
  have R1 := fun w a c hr => Right_any w a c _ (gotL l) rfl (by omega) hr (gotL_okX l)
  have hR : rightX (gotL l) = true := by have := (node_again l hN).1; simp only [okL, Bool.and_eq_true] at this; exact this.2
  rw [hR] at R1
  rw [hN] at N1
  rw [(node_again l hN).2, show errL (gotL l) = 0 from if_pos (node_again l hN).1] at M1
  generalize gotL l = X at N1 M1 R1 hln
  clear hR
  clear hS hI hN
  go_enter Try.func35, Try.ntmps35
  go_wp2_with fail
  refine (G1 _ _ _ hr).mono ?_
  rintro e w1 ⟨rfl, b1⟩
  have bw1 := (Below.refl w.heap.size w).trans (b1.mono (Below.refl w.heap.size w).size)
  replace hr := hr.below b1
  clear b1
  go_wp2_with fail
  refine (I1 _ _ _ (hr.alloc _)).mono ?_
  rintro e w2 ⟨A3, c3, rfl, g3, b2⟩
  have bw2 := (bw1.alloc bw1.size _).trans (b2.mono (by have := bw1.size; simp; omega))
  replace hr := (hr.below ((Below.refl _ _).alloc (Nat.le_refl _) _)).below b2
  clear b2
  have h3 := g3.rd
  go_wp2_with fail
  refine (J1 _ _ _ (h3.alloc _)).mono ?_
  rintro e w3 ⟨A4, c4, rfl, g4, b3⟩
  have bw3 := (bw2.alloc bw2.size _).trans (b3.mono (by have := bw2.size; simp; omega))
  replace hr := (hr.below ((Below.refl _ _).alloc (Nat.le_refl _) _)).below b3
  clear b3
  have h4 := g4.rd
  go_wp2_with fail
  refine (SameBytes_self _ _ _ _ _ _ _ l rfl rfl h4 hr).mono ?_
  rintro e w' ⟨rfl, rfl⟩
  clear h3 g3 h4 g4
  go_wp2_with fail
  refine (N1 _ _ _ hr).mono ?_
  rintro e w4 ⟨A5, c5, rfl, g5, b4⟩
  have bw4 := bw3.trans (b4.mono bw3.size)
  replace hr := hr.below b4
  clear b4
  have h5 := g5.rd
  go_wp2_with fail
  refine (M1 _ _ _ h5).mono ?_
  rintro e w5 ⟨A6, c6, rfl, g6, b5⟩
  have bw5 := bw4.trans (b5.mono bw4.size)
  replace hr := hr.below b5
  replace h5 := h5.below b5
  clear b5
  have h6 := g6.rd
  go_wp2_with fail
  refine (R1 _ _ _ h5).mono ?_
  rintro e w6 ⟨rfl, b6⟩
  have bw6 := bw5.trans (b6.mono bw5.size)
  replace hr := hr.below b6
  replace h5 := h5.below b6
  replace h6 := h6.below b6
  clear b6
  go_wp2_with fail
  refine (SameBytes_self _ _ _ _ _ _ _ l rfl rfl h6 hr).mono ?_
  rintro e w' ⟨rfl, rfl⟩
  go_wp2
  go_ret
  exact ⟨rfl, bw6⟩
set_option maxRecDepth 100000 in
theorem again_nyn (w : World) (a : Option Addr) (c : Nat) (l : List UInt8) (hl : l.length ≤ 10000) (hr : RdB w a l) (hS : gerrS l = 30) (hI : gerrInd l = 0) (hN : gerrL l = 30) :
    Calls Try.prog 35 #[.slice a l.length c] w fun e w' => e = .returned (.bool true) ∧ Below w.heap.size w w' := by
  have G1 := fun w a c hr => GetSuper_none w a c l.length l rfl (by omega) hr hS
  have I1 := fun w a c hr => GetInode_any w a c l.length l rfl (by omega) hr
  have J1 := fun w a c hr => PutInode_any w (gotInd l) a c (gotInd_in l) hr
  rw [hI] at I1
  rw [(ind_again l hI).2, show errInd (gotInd l) = 0 from if_pos (ind_again l hI).1] at J1
  generalize gotInd l = nn at I1 J1
  obtain ⟨k, ln, sz, nd, dir⟩ := nn
  simp only [Ind.val, indCells] at I1 J1
  have N1 := fun w a c hr => GetNode_none w a c l.length l rfl (by omega) hr hN
  clear hS hI hN
  go_enter Try.func35, Try.ntmps35
  go_wp2_with fail
  refine (G1 _ _ _ hr).mono ?_
  rintro e w1 ⟨rfl, b1⟩
  have bw1 := (Below.refl w.heap.size w).trans (b1.mono (Below.refl w.heap.size w).size)
  replace hr := hr.below b1
  clear b1
  go_wp2_with fail
  refine (I1 _ _ _ (hr.alloc _)).mono ?_
  rintro e w2 ⟨A3, c3, rfl, g3, b2⟩
  have bw2 := (bw1.alloc bw1.size _).trans (b2.mono (by have := bw1.size; simp; omega))
  replace hr := (hr.below ((Below.refl _ _).alloc (Nat.le_refl _) _)).below b2
  clear b2
  have h3 := g3.rd
  go_wp2_with fail
  refine (J1 _ _ _ (h3.alloc _)).mono ?_
  rintro e w3 ⟨A4, c4, rfl, g4, b3⟩
  have bw3 := (bw2.alloc bw2.size _).trans (b3.mono (by have := bw2.size; simp; omega))
  replace hr := (hr.below ((Below.refl _ _).alloc (Nat.le_refl _) _)).below b3
  clear b3
  have h4 := g4.rd
  go_wp2_with fail
  refine (SameBytes_self _ _ _ _ _ _ _ l rfl rfl h4 hr).mono ?_
  rintro e w' ⟨rfl, rfl⟩
  clear h3 g3 h4 g4
  go_wp2_with fail
  refine (N1 _ _ _ hr).mono ?_
  rintro e w4 ⟨A5, c5, rfl, b4⟩
  have bw4 := bw3.trans (b4.mono bw3.size)
  replace hr := hr.below b4
  clear b4
  go_wp2
  go_ret
  exact ⟨rfl, bw4⟩
set_option maxRecDepth 100000 in
theorem again_nny (w : World) (a : Option Addr) (c : Nat) (l : List UInt8) (hl : l.length ≤ 10000) (hr : RdB w a l) (hS : gerrS l = 30) (hI : gerrInd l = 30) (hN : gerrL l = 0) :
    Calls Try.prog 35 #[.slice a l.length c] w fun e w' => e = .returned (.bool true) ∧ Below w.heap.size w w' := by
  have G1 := fun w a c hr => GetSuper_none w a c l.length l rfl (by omega) hr hS
  have I1 := fun w a c hr => GetInode_none w a c l.length l rfl (by omega) hr hI
  have N1 := fun w a c hr => GetNode_any w a c l.length l rfl (by omega) hr
  have hln := gotL_len l
  have M1 := fun w a c hr => PutNode_any w a c _ (gotL l) rfl (by omega) hr (gotL_okX l)
  have R1 := fun w a c hr => Right_any w a c _ (gotL l) rfl (by omega) hr (gotL_okX l)
  have hR : rightX (gotL l) = true := by have := (node_again l hN).1; simp only [okL, Bool.and_eq_true] at this; exact this.2
  rw [hR] at R1
  rw [hN] at N1
  rw [(node_again l hN).2, show errL (gotL l) = 0 from if_pos (node_again l hN).1] at M1
  generalize gotL l = X at N1 M1 R1 hln
  clear hR
  clear hS hI hN
  go_enter Try.func35, Try.ntmps35
  go_wp2_with fail
  refine (G1 _ _ _ hr).mono ?_
  rintro e w1 ⟨rfl, b1⟩
  have bw1 := (Below.refl w.heap.size w).trans (b1.mono (Below.refl w.heap.size w).size)
  replace hr := hr.below b1
  clear b1
  go_wp2_with fail
  refine (I1 _ _ _ (hr.alloc _)).mono ?_
  rintro e w2 ⟨A3, c3, rfl, b2⟩
  have bw2 := (bw1.alloc bw1.size _).trans (b2.mono (by have := bw1.size; simp; omega))
  replace hr := (hr.below ((Below.refl _ _).alloc (Nat.le_refl _) _)).below b2
  clear b2
  go_wp2_with fail
  refine (N1 _ _ _ (hr.alloc _)).mono ?_
  rintro e w3 ⟨A5, c5, rfl, g5, b3⟩
  have bw3 := (bw2.alloc bw2.size _).trans (b3.mono (by have := bw2.size; simp; omega))
  replace hr := (hr.below ((Below.refl _ _).alloc (Nat.le_refl _) _)).below b3
  clear b3
  have h5 := g5.rd
  go_wp2_with fail
  refine (M1 _ _ _ h5).mono ?_
  rintro e w4 ⟨A6, c6, rfl, g6, b4⟩
  have bw4 := bw3.trans (b4.mono bw3.size)
  replace hr := hr.below b4
  replace h5 := h5.below b4
  clear b4
  have h6 := g6.rd
  go_wp2_with fail
  refine (R1 _ _ _ h5).mono ?_
  rintro e w5 ⟨rfl, b5⟩
  have bw5 := bw4.trans (b5.mono bw4.size)
  replace hr := hr.below b5
  replace h5 := h5.below b5
  replace h6 := h6.below b5
  clear b5
  go_wp2_with fail
  refine (SameBytes_self _ _ _ _ _ _ _ l rfl rfl h6 hr).mono ?_
  rintro e w' ⟨rfl, rfl⟩
  go_wp2
  go_ret
  exact ⟨rfl, bw5⟩
set_option maxRecDepth 100000 in
theorem again_nnn (w : World) (a : Option Addr) (c : Nat) (l : List UInt8) (hl : l.length ≤ 10000) (hr : RdB w a l) (hS : gerrS l = 30) (hI : gerrInd l = 30) (hN : gerrL l = 30) :
    Calls Try.prog 35 #[.slice a l.length c] w fun e w' => e = .returned (.bool true) ∧ Below w.heap.size w w' := by
  have G1 := fun w a c hr => GetSuper_none w a c l.length l rfl (by omega) hr hS
  have I1 := fun w a c hr => GetInode_none w a c l.length l rfl (by omega) hr hI
  have N1 := fun w a c hr => GetNode_none w a c l.length l rfl (by omega) hr hN
  clear hS hI hN
  go_enter Try.func35, Try.ntmps35
  go_wp2_with fail
  refine (G1 _ _ _ hr).mono ?_
  rintro e w1 ⟨rfl, b1⟩
  have bw1 := (Below.refl w.heap.size w).trans (b1.mono (Below.refl w.heap.size w).size)
  replace hr := hr.below b1
  clear b1
  go_wp2_with fail
  refine (I1 _ _ _ (hr.alloc _)).mono ?_
  rintro e w2 ⟨A3, c3, rfl, b2⟩
  have bw2 := (bw1.alloc bw1.size _).trans (b2.mono (by have := bw1.size; simp; omega))
  replace hr := (hr.below ((Below.refl _ _).alloc (Nat.le_refl _) _)).below b2
  clear b2
  go_wp2_with fail
  refine (N1 _ _ _ (hr.alloc _)).mono ?_
  rintro e w3 ⟨A5, c5, rfl, b3⟩
  have bw3 := (bw2.alloc bw2.size _).trans (b3.mono (by have := bw2.size; simp; omega))
  replace hr := (hr.below ((Below.refl _ _).alloc (Nat.le_refl _) _)).below b3
  clear b3
  go_wp2
  go_ret
  exact ⟨rfl, bw3⟩
theorem again_any (w : World) (a : Option Addr) (c : Nat) (l : List UInt8) (hl : l.length ≤ 10000) (hr : RdB w a l) :
    Calls Try.prog 35 #[.slice a l.length c] w fun e w' => e = .returned (.bool true) ∧ Below w.heap.size w w' := by
  rcases gerrS_or l with hS | hS <;> rcases gerrInd_or l with hI | hI <;> rcases gerrL_or l with hN | hN
  · exact again_yyy w a c l hl hr hS hI hN
  · exact again_yyn w a c l hl hr hS hI hN
  · exact again_yny w a c l hl hr hS hI hN
  · exact again_ynn w a c l hl hr hS hI hN
  · exact again_nyy w a c l hl hr hS hI hN
  · exact again_nyn w a c l hl hr hS hI hN
  · exact again_nny w a c l hl hr hS hI hN
  · exact again_nnn w a c l hl hr hS hI hN
end Go.Proofs.Ytjblpejekcbokaa
