/- The walks of SuperBack. -/
import Derived.Test.YtjblpejekcbokaaLaw03f
namespace Go.Proofs.Ytjblpejekcbokaa
open Go.RowKit
set_option maxHeartbeats 3200000
set_option linter.unusedVariables false
set_option linter.unusedSimpArgs false

set_option maxRecDepth 100000 in
theorem SuperBack_yyy (w : World) (s : Sup) (n : Ind) (l : List Ext) (m : List UInt8) (a : Option Addr) (c : Nat) (x : Option Addr) (d : Nat) (y : Option Addr) (f : Nat) (hi : n.in_) (hra : RdX w a n.dir) (hrx : RdX w x l) (hry : RdB w y m) (hl : l.length ≤ 600) (hn : n.dir.length ≤ 600) (hm : m.length ≤ 10000) (ho : okX l) (hS : okS s = true) (hI : okInd n = true) (hN : okL l = true) :
    Calls Try.prog 7 #[s.val, n.val a c, .slice x l.length d, .slice y m.length f] w fun e w' => e = .returned (.bool true) ∧ Below w.heap.size w w' := by
  have P1 := fun w => PutSuper_any w s
  rw [show putS s = supB s from if_pos hS, show errS s = 0 from if_pos hS, supB_length] at P1
  have G1 := fun w a c hr => GetSuper_any w a c 4096 (supB s) (supB_length s).symm (by rw [supB_length]; decide) hr
  rw [(got_supB s hS).1, (got_supB s hS).2] at G1
  generalize supB s = SB at P1 G1
  have I1 := fun w a c hr => PutInode_any w n a c hi hr
  have hLI := indB_length (okInd_len hI)
  rw [show putInd n = indB n from if_pos hI, show errInd n = 0 from if_pos hI, hLI] at I1
  have J1 := fun w a c hr => GetInode_any w a c 64 (indB n) hLI.symm (by rw [hLI]; decide) hr
  rw [(got_indB n hI).1, (got_indB n hI).2] at J1
  generalize indB n = IB at I1 J1 hLI
  clear hLI
  have SI := fun w a b c d h1 h2 => SameInode_self w n a b c d (by omega) h1 h2
  have N1 := fun w a c hr => PutNode_any w a c _ l rfl (by omega) hr ho
  have hl2 : l.length ≤ 250 := by have := hN; simp only [okL, Bool.and_eq_true, decide_eq_true_eq] at this; exact this.1
  have hLN := nodeB_length l hl2
  rw [show putL l = nodeB l from if_pos hN, show errL l = 0 from if_pos hN, hLN] at N1
  have M1 := fun w a c hr => GetNode_any w a c 4096 (nodeB l) hLN.symm (by rw [hLN]; decide) hr
  rw [(got_nodeB l hN).1, (got_nodeB l hN).2] at M1
  generalize nodeB l = NB at N1 M1 hLN
  clear hLN
  have SX := fun w a b c d h1 h2 => SameExtents_self w a b c d _ _ l rfl rfl (by omega) h1 h2
  have AG := fun w hr => again_any w y f m hm hr
  clear hS hI hN hi ho
  obtain ⟨b, e, q, t⟩ := s
  obtain ⟨k, ln, sz, nd, dir⟩ := n
  simp only [Sup.val, Ind.val, indCells] at *
  obtain ⟨v, hv⟩ : ∃ v, v = (w.alloc (.cells #[.int .i64 b, .int .i64 e, .int .i64 q, .int .i64 t] 23)).alloc (.cells #[.int .u8 (k : Int), .int .i64 ln, .int .i64 sz, .slice a dir.length c, .int .i64 nd] 27) := ⟨_, rfl⟩
  have bv : Below w.heap.size w v := by rw [hv]; exact below_two (Below.refl _ w) (Nat.le_refl _) _ _
  have rs := hid (show v.heap[w.heap.size]? = some (.cells #[.int .i64 b, .int .i64 e, .int .i64 q, .int .i64 t] 23 (0, 0)) by rw [hv]; exact (heap_alloc_old _ _ (by simp)).trans (heap_alloc_new w _))
  have rn := hid (show v.heap[w.heap.size + 1]? = some (.cells #[.int .u8 (k : Int), .int .i64 ln, .int .i64 sz, .slice a dir.length c, .int .i64 nd] 27 (0, 0)) by rw [hv]; have := heap_alloc_new (w.alloc (.cells #[.int .i64 b, .int .i64 e, .int .i64 q, .int .i64 t] 23)) (.cells #[.int .u8 (k : Int), .int .i64 ln, .int .i64 sz, .slice a dir.length c, .int .i64 nd] 27); rw [World.size_alloc] at this; exact this)
  have ha := hra.below bv
  have hx := hrx.below bv
  have hy := hry.below bv
  go_enter Try.func7, Try.ntmps7
  go_wp2_with fail
  rw [← hv]
  clear hv hra hrx hry
  obtain ⟨f0, f1, f2, f3⟩ := four rs.out
  obtain ⟨g0, g1, g2, g3, g4⟩ := five rn.out
  go_wp2_with fail
  refine (P1 _).mono ?_
  rintro e w1 ⟨A1, c1, rfl, k1, b1⟩
  have bw1 := bv.trans (b1.mono bv.size)
  replace ha := ha.below b1
  replace hx := hx.below b1
  replace hy := hy.below b1
  replace rs := hid (kept1 b1 rs.out)
  replace rn := hid (kept1 b1 rn.out)
  clear b1
  have h1 := k1.rd
  clear k1 g0 g1 g2 g3 g4
  clear f0 f1 f2 f3
  go_wp2_with fail
  refine (G1 _ _ _ h1).mono ?_
  rintro e w2 ⟨rfl, b2⟩
  have bw2 := bw1.trans (b2.mono bw1.size)
  replace ha := ha.below b2
  replace hx := hx.below b2
  replace hy := hy.below b2
  replace rs := hid (kept1 b2 rs.out)
  replace rn := hid (kept1 b2 rn.out)
  clear b2
  clear h1
  obtain ⟨f0, f1, f2, f3⟩ := four_alloc rs.out
  obtain ⟨g0, g1, g2, g3, g4⟩ := five_alloc rn.out
  go_wp2_with fail
  refine (I1 _ _ _ (ha.alloc _)).mono ?_
  rintro e w3 ⟨A3, c3, rfl, k3, b3⟩
  have bw3 := (bw2.alloc bw2.size _).trans (b3.mono (by have := bw2.size; simp; omega))
  replace ha := (ha.below ((Below.refl _ _).alloc (Nat.le_refl _) _)).below b3
  replace hx := (hx.below ((Below.refl _ _).alloc (Nat.le_refl _) _)).below b3
  replace hy := (hy.below ((Below.refl _ _).alloc (Nat.le_refl _) _)).below b3
  replace rs := hid (kept2 b3 rs.out)
  replace rn := hid (kept2 b3 rn.out)
  clear b3
  have h3 := k3.rd
  clear k3 g0 g1 g2 g3 g4
  clear f0 f1 f2 f3
  go_wp2_with fail
  refine (J1 _ _ _ h3).mono ?_
  rintro e w4 ⟨A4, c4, rfl, k4, b4⟩
  have bw4 := bw3.trans (b4.mono bw3.size)
  replace ha := ha.below b4
  replace hx := hx.below b4
  replace hy := hy.below b4
  replace rs := hid (kept1 b4 rs.out)
  replace rn := hid (kept1 b4 rn.out)
  clear b4
  have h4 := k4.rd
  clear h3 k4
  obtain ⟨g0, g1, g2, g3, g4⟩ := five_alloc rn.out
  go_wp2_with fail
  refine (SI _ _ _ _ _ (h4.alloc _) (ha.alloc _)).mono ?_
  rintro e w5 ⟨rfl, b5⟩
  have bw5 := (bw4.alloc bw4.size _).trans (b5.mono (by have := bw4.size; simp; omega))
  replace ha := (ha.below ((Below.refl _ _).alloc (Nat.le_refl _) _)).below b5
  replace hx := (hx.below ((Below.refl _ _).alloc (Nat.le_refl _) _)).below b5
  replace hy := (hy.below ((Below.refl _ _).alloc (Nat.le_refl _) _)).below b5
  replace rs := hid (kept2 b5 rs.out)
  replace rn := hid (kept2 b5 rn.out)
  clear b5
  clear g0 g1 g2 g3 g4 h4
  go_wp2_with fail
  refine (N1 _ _ _ hx).mono ?_
  rintro e w6 ⟨A5, c5, rfl, k5, b6⟩
  have bw6 := bw5.trans (b6.mono bw5.size)
  replace ha := ha.below b6
  replace hx := hx.below b6
  replace hy := hy.below b6
  replace rs := hid (kept1 b6 rs.out)
  replace rn := hid (kept1 b6 rn.out)
  clear b6
  have h5 := k5.rd
  clear k5
  go_wp2_with fail
  refine (M1 _ _ _ h5).mono ?_
  rintro e w7 ⟨A6, c6, rfl, k6, b7⟩
  have bw7 := bw6.trans (b7.mono bw6.size)
  replace ha := ha.below b7
  replace hx := hx.below b7
  replace hy := hy.below b7
  replace rs := hid (kept1 b7 rs.out)
  replace rn := hid (kept1 b7 rn.out)
  clear b7
  have h6 := k6.rd
  clear h5 k6
  go_wp2_with fail
  refine (SX _ _ _ _ _ h6 hx).mono ?_
  rintro e w8 ⟨rfl, b8⟩
  have bw8 := bw7.trans (b8.mono bw7.size)
  replace ha := ha.below b8
  replace hx := hx.below b8
  replace hy := hy.below b8
  replace rs := hid (kept1 b8 rs.out)
  replace rn := hid (kept1 b8 rn.out)
  clear b8
  go_wp2_with fail
  refine (AG _ hy).mono ?_
  rintro e w9 ⟨rfl, b9⟩
  have bw9 := bw8.trans (b9.mono bw8.size)
  clear b9
  go_wp2_with fail
  refine (awake03_any _).mono ?_
  rintro e w10 ⟨rfl, b10⟩
  have bw10 := bw9.trans (b10.mono bw9.size)
  clear b10
  go_wp2
  go_ret
  exact ⟨rfl, bw10⟩
set_option maxRecDepth 100000 in
theorem SuperBack_yyn (w : World) (s : Sup) (n : Ind) (l : List Ext) (m : List UInt8) (a : Option Addr) (c : Nat) (x : Option Addr) (d : Nat) (y : Option Addr) (f : Nat) (hi : n.in_) (hra : RdX w a n.dir) (hrx : RdX w x l) (hry : RdB w y m) (hl : l.length ≤ 600) (hn : n.dir.length ≤ 600) (hm : m.length ≤ 10000) (ho : okX l) (hS : okS s = true) (hI : okInd n = true) (hN : okL l = false) :
    Calls Try.prog 7 #[s.val, n.val a c, .slice x l.length d, .slice y m.length f] w fun e w' => e = .returned (.bool true) ∧ Below w.heap.size w w' := by
  have P1 := fun w => PutSuper_any w s
  rw [show putS s = supB s from if_pos hS, show errS s = 0 from if_pos hS, supB_length] at P1
  have G1 := fun w a c hr => GetSuper_any w a c 4096 (supB s) (supB_length s).symm (by rw [supB_length]; decide) hr
  rw [(got_supB s hS).1, (got_supB s hS).2] at G1
  generalize supB s = SB at P1 G1
  have I1 := fun w a c hr => PutInode_any w n a c hi hr
  have hLI := indB_length (okInd_len hI)
  rw [show putInd n = indB n from if_pos hI, show errInd n = 0 from if_pos hI, hLI] at I1
  have J1 := fun w a c hr => GetInode_any w a c 64 (indB n) hLI.symm (by rw [hLI]; decide) hr
  rw [(got_indB n hI).1, (got_indB n hI).2] at J1
  generalize indB n = IB at I1 J1 hLI
  clear hLI
  have SI := fun w a b c d h1 h2 => SameInode_self w n a b c d (by omega) h1 h2
  have N1 := fun w a c hr => PutNode_any w a c _ l rfl (by omega) hr ho
  rw [show putL l = [] by rw [putL, hN]; rfl, show errL l = 2 by rw [errL, hN]; rfl, List.length_nil] at N1
  have M1 := fun w a c hr => GetNode_none w a c 0 [] rfl (by decide) hr gerrL_nil
  have AG := fun w hr => again_any w y f m hm hr
  clear hS hI hN hi ho
  obtain ⟨b, e, q, t⟩ := s
  obtain ⟨k, ln, sz, nd, dir⟩ := n
  simp only [Sup.val, Ind.val, indCells] at *
  obtain ⟨v, hv⟩ : ∃ v, v = (w.alloc (.cells #[.int .i64 b, .int .i64 e, .int .i64 q, .int .i64 t] 23)).alloc (.cells #[.int .u8 (k : Int), .int .i64 ln, .int .i64 sz, .slice a dir.length c, .int .i64 nd] 27) := ⟨_, rfl⟩
  have bv : Below w.heap.size w v := by rw [hv]; exact below_two (Below.refl _ w) (Nat.le_refl _) _ _
  have rs := hid (show v.heap[w.heap.size]? = some (.cells #[.int .i64 b, .int .i64 e, .int .i64 q, .int .i64 t] 23 (0, 0)) by rw [hv]; exact (heap_alloc_old _ _ (by simp)).trans (heap_alloc_new w _))
  have rn := hid (show v.heap[w.heap.size + 1]? = some (.cells #[.int .u8 (k : Int), .int .i64 ln, .int .i64 sz, .slice a dir.length c, .int .i64 nd] 27 (0, 0)) by rw [hv]; have := heap_alloc_new (w.alloc (.cells #[.int .i64 b, .int .i64 e, .int .i64 q, .int .i64 t] 23)) (.cells #[.int .u8 (k : Int), .int .i64 ln, .int .i64 sz, .slice a dir.length c, .int .i64 nd] 27); rw [World.size_alloc] at this; exact this)
  have ha := hra.below bv
  have hx := hrx.below bv
  have hy := hry.below bv
  go_enter Try.func7, Try.ntmps7
  go_wp2_with fail
  rw [← hv]
  clear hv hra hrx hry
  obtain ⟨f0, f1, f2, f3⟩ := four rs.out
  obtain ⟨g0, g1, g2, g3, g4⟩ := five rn.out
  go_wp2_with fail
  refine (P1 _).mono ?_
  rintro e w1 ⟨A1, c1, rfl, k1, b1⟩
  have bw1 := bv.trans (b1.mono bv.size)
  replace ha := ha.below b1
  replace hx := hx.below b1
  replace hy := hy.below b1
  replace rs := hid (kept1 b1 rs.out)
  replace rn := hid (kept1 b1 rn.out)
  clear b1
  have h1 := k1.rd
  clear k1 g0 g1 g2 g3 g4
  clear f0 f1 f2 f3
  go_wp2_with fail
  refine (G1 _ _ _ h1).mono ?_
  rintro e w2 ⟨rfl, b2⟩
  have bw2 := bw1.trans (b2.mono bw1.size)
  replace ha := ha.below b2
  replace hx := hx.below b2
  replace hy := hy.below b2
  replace rs := hid (kept1 b2 rs.out)
  replace rn := hid (kept1 b2 rn.out)
  clear b2
  clear h1
  obtain ⟨f0, f1, f2, f3⟩ := four_alloc rs.out
  obtain ⟨g0, g1, g2, g3, g4⟩ := five_alloc rn.out
  go_wp2_with fail
  refine (I1 _ _ _ (ha.alloc _)).mono ?_
  rintro e w3 ⟨A3, c3, rfl, k3, b3⟩
  have bw3 := (bw2.alloc bw2.size _).trans (b3.mono (by have := bw2.size; simp; omega))
  replace ha := (ha.below ((Below.refl _ _).alloc (Nat.le_refl _) _)).below b3
  replace hx := (hx.below ((Below.refl _ _).alloc (Nat.le_refl _) _)).below b3
  replace hy := (hy.below ((Below.refl _ _).alloc (Nat.le_refl _) _)).below b3
  replace rs := hid (kept2 b3 rs.out)
  replace rn := hid (kept2 b3 rn.out)
  clear b3
  have h3 := k3.rd
  clear k3 g0 g1 g2 g3 g4
  clear f0 f1 f2 f3
  go_wp2_with fail
  refine (J1 _ _ _ h3).mono ?_
  rintro e w4 ⟨A4, c4, rfl, k4, b4⟩
  have bw4 := bw3.trans (b4.mono bw3.size)
  replace ha := ha.below b4
  replace hx := hx.below b4
  replace hy := hy.below b4
  replace rs := hid (kept1 b4 rs.out)
  replace rn := hid (kept1 b4 rn.out)
  clear b4
  have h4 := k4.rd
  clear h3 k4
  obtain ⟨g0, g1, g2, g3, g4⟩ := five_alloc rn.out
  go_wp2_with fail
  refine (SI _ _ _ _ _ (h4.alloc _) (ha.alloc _)).mono ?_
  rintro e w5 ⟨rfl, b5⟩
  have bw5 := (bw4.alloc bw4.size _).trans (b5.mono (by have := bw4.size; simp; omega))
  replace ha := (ha.below ((Below.refl _ _).alloc (Nat.le_refl _) _)).below b5
  replace hx := (hx.below ((Below.refl _ _).alloc (Nat.le_refl _) _)).below b5
  replace hy := (hy.below ((Below.refl _ _).alloc (Nat.le_refl _) _)).below b5
  replace rs := hid (kept2 b5 rs.out)
  replace rn := hid (kept2 b5 rn.out)
  clear b5
  clear g0 g1 g2 g3 g4 h4
  go_wp2_with fail
  refine (N1 _ _ _ hx).mono ?_
  rintro e w6 ⟨A5, c5, rfl, k5, b6⟩
  have bw6 := bw5.trans (b6.mono bw5.size)
  replace ha := ha.below b6
  replace hx := hx.below b6
  replace hy := hy.below b6
  replace rs := hid (kept1 b6 rs.out)
  replace rn := hid (kept1 b6 rn.out)
  clear b6
  have h5 := k5.rd
  clear k5
  go_wp2_with fail
  refine (M1 _ _ _ h5).mono ?_
  rintro e w7 ⟨A6, c6, rfl, b7⟩
  have bw7 := bw6.trans (b7.mono bw6.size)
  replace ha := ha.below b7
  replace hx := hx.below b7
  replace hy := hy.below b7
  replace rs := hid (kept1 b7 rs.out)
  replace rn := hid (kept1 b7 rn.out)
  clear b7
  go_wp2_with fail
  refine (AG _ hy).mono ?_
  rintro e w8 ⟨rfl, b8⟩
  have bw8 := bw7.trans (b8.mono bw7.size)
  clear b8
  go_wp2_with fail
  refine (awake03_any _).mono ?_
  rintro e w9 ⟨rfl, b9⟩
  have bw9 := bw8.trans (b9.mono bw8.size)
  clear b9
  go_wp2
  go_ret
  exact ⟨rfl, bw9⟩
set_option maxRecDepth 100000 in
theorem SuperBack_yny (w : World) (s : Sup) (n : Ind) (l : List Ext) (m : List UInt8) (a : Option Addr) (c : Nat) (x : Option Addr) (d : Nat) (y : Option Addr) (f : Nat) (hi : n.in_) (hra : RdX w a n.dir) (hrx : RdX w x l) (hry : RdB w y m) (hl : l.length ≤ 600) (hn : n.dir.length ≤ 600) (hm : m.length ≤ 10000) (ho : okX l) (hS : okS s = true) (hI : okInd n = false) (hN : okL l = true) :
    Calls Try.prog 7 #[s.val, n.val a c, .slice x l.length d, .slice y m.length f] w fun e w' => e = .returned (.bool true) ∧ Below w.heap.size w w' := by
  have P1 := fun w => PutSuper_any w s
  rw [show putS s = supB s from if_pos hS, show errS s = 0 from if_pos hS, supB_length] at P1
  have G1 := fun w a c hr => GetSuper_any w a c 4096 (supB s) (supB_length s).symm (by rw [supB_length]; decide) hr
  rw [(got_supB s hS).1, (got_supB s hS).2] at G1
  generalize supB s = SB at P1 G1
  have I1 := fun w a c hr => PutInode_any w n a c hi hr
  rw [show putInd n = [] by rw [putInd, hI]; rfl, show errInd n = 2 by rw [errInd, hI]; rfl, List.length_nil] at I1
  have J1 := fun w a c hr => GetInode_none w a c 0 [] rfl (by decide) hr gerrInd_nil
  have N1 := fun w a c hr => PutNode_any w a c _ l rfl (by omega) hr ho
  have hl2 : l.length ≤ 250 := by have := hN; simp only [okL, Bool.and_eq_true, decide_eq_true_eq] at this; exact this.1
  have hLN := nodeB_length l hl2
  rw [show putL l = nodeB l from if_pos hN, show errL l = 0 from if_pos hN, hLN] at N1
  have M1 := fun w a c hr => GetNode_any w a c 4096 (nodeB l) hLN.symm (by rw [hLN]; decide) hr
  rw [(got_nodeB l hN).1, (got_nodeB l hN).2] at M1
  generalize nodeB l = NB at N1 M1 hLN
  clear hLN
  have SX := fun w a b c d h1 h2 => SameExtents_self w a b c d _ _ l rfl rfl (by omega) h1 h2
  have AG := fun w hr => again_any w y f m hm hr
  clear hS hI hN hi ho
  obtain ⟨b, e, q, t⟩ := s
  obtain ⟨k, ln, sz, nd, dir⟩ := n
  simp only [Sup.val, Ind.val, indCells] at *
  obtain ⟨v, hv⟩ : ∃ v, v = (w.alloc (.cells #[.int .i64 b, .int .i64 e, .int .i64 q, .int .i64 t] 23)).alloc (.cells #[.int .u8 (k : Int), .int .i64 ln, .int .i64 sz, .slice a dir.length c, .int .i64 nd] 27) := ⟨_, rfl⟩
  have bv : Below w.heap.size w v := by rw [hv]; exact below_two (Below.refl _ w) (Nat.le_refl _) _ _
  have rs := hid (show v.heap[w.heap.size]? = some (.cells #[.int .i64 b, .int .i64 e, .int .i64 q, .int .i64 t] 23 (0, 0)) by rw [hv]; exact (heap_alloc_old _ _ (by simp)).trans (heap_alloc_new w _))
  have rn := hid (show v.heap[w.heap.size + 1]? = some (.cells #[.int .u8 (k : Int), .int .i64 ln, .int .i64 sz, .slice a dir.length c, .int .i64 nd] 27 (0, 0)) by rw [hv]; have := heap_alloc_new (w.alloc (.cells #[.int .i64 b, .int .i64 e, .int .i64 q, .int .i64 t] 23)) (.cells #[.int .u8 (k : Int), .int .i64 ln, .int .i64 sz, .slice a dir.length c, .int .i64 nd] 27); rw [World.size_alloc] at this; exact this)
  have ha := hra.below bv
  have hx := hrx.below bv
  have hy := hry.below bv
  go_enter Try.func7, Try.ntmps7
  go_wp2_with fail
  rw [← hv]
  clear hv hra hrx hry
  obtain ⟨f0, f1, f2, f3⟩ := four rs.out
  obtain ⟨g0, g1, g2, g3, g4⟩ := five rn.out
  go_wp2_with fail
  refine (P1 _).mono ?_
  rintro e w1 ⟨A1, c1, rfl, k1, b1⟩
  have bw1 := bv.trans (b1.mono bv.size)
  replace ha := ha.below b1
  replace hx := hx.below b1
  replace hy := hy.below b1
  replace rs := hid (kept1 b1 rs.out)
  replace rn := hid (kept1 b1 rn.out)
  clear b1
  have h1 := k1.rd
  clear k1 g0 g1 g2 g3 g4
  clear f0 f1 f2 f3
  go_wp2_with fail
  refine (G1 _ _ _ h1).mono ?_
  rintro e w2 ⟨rfl, b2⟩
  have bw2 := bw1.trans (b2.mono bw1.size)
  replace ha := ha.below b2
  replace hx := hx.below b2
  replace hy := hy.below b2
  replace rs := hid (kept1 b2 rs.out)
  replace rn := hid (kept1 b2 rn.out)
  clear b2
  clear h1
  obtain ⟨f0, f1, f2, f3⟩ := four_alloc rs.out
  obtain ⟨g0, g1, g2, g3, g4⟩ := five_alloc rn.out
  go_wp2_with fail
  refine (I1 _ _ _ (ha.alloc _)).mono ?_
  rintro e w3 ⟨A3, c3, rfl, k3, b3⟩
  have bw3 := (bw2.alloc bw2.size _).trans (b3.mono (by have := bw2.size; simp; omega))
  replace ha := (ha.below ((Below.refl _ _).alloc (Nat.le_refl _) _)).below b3
  replace hx := (hx.below ((Below.refl _ _).alloc (Nat.le_refl _) _)).below b3
  replace hy := (hy.below ((Below.refl _ _).alloc (Nat.le_refl _) _)).below b3
  replace rs := hid (kept2 b3 rs.out)
  replace rn := hid (kept2 b3 rn.out)
  clear b3
  have h3 := k3.rd
  clear k3 g0 g1 g2 g3 g4
  clear f0 f1 f2 f3
  go_wp2_with fail
  refine (J1 _ _ _ h3).mono ?_
  rintro e w4 ⟨A4, c4, rfl, b4⟩
  have bw4 := bw3.trans (b4.mono bw3.size)
  replace ha := ha.below b4
  replace hx := hx.below b4
  replace hy := hy.below b4
  replace rs := hid (kept1 b4 rs.out)
  replace rn := hid (kept1 b4 rn.out)
  clear b4
  clear h3
  go_wp2_with fail
  refine (N1 _ _ _ (hx.alloc _)).mono ?_
  rintro e w5 ⟨A5, c5, rfl, k5, b5⟩
  have bw5 := (bw4.alloc bw4.size _).trans (b5.mono (by have := bw4.size; simp; omega))
  replace ha := (ha.below ((Below.refl _ _).alloc (Nat.le_refl _) _)).below b5
  replace hx := (hx.below ((Below.refl _ _).alloc (Nat.le_refl _) _)).below b5
  replace hy := (hy.below ((Below.refl _ _).alloc (Nat.le_refl _) _)).below b5
  replace rs := hid (kept2 b5 rs.out)
  replace rn := hid (kept2 b5 rn.out)
  clear b5
  have h5 := k5.rd
  clear k5
  go_wp2_with fail
  refine (M1 _ _ _ h5).mono ?_
  rintro e w6 ⟨A6, c6, rfl, k6, b6⟩
  have bw6 := bw5.trans (b6.mono bw5.size)
  replace ha := ha.below b6
  replace hx := hx.below b6
  replace hy := hy.below b6
  replace rs := hid (kept1 b6 rs.out)
  replace rn := hid (kept1 b6 rn.out)
  clear b6
  have h6 := k6.rd
  clear h5 k6
  go_wp2_with fail
  refine (SX _ _ _ _ _ h6 hx).mono ?_
  rintro e w7 ⟨rfl, b7⟩
  have bw7 := bw6.trans (b7.mono bw6.size)
  replace ha := ha.below b7
  replace hx := hx.below b7
  replace hy := hy.below b7
  replace rs := hid (kept1 b7 rs.out)
  replace rn := hid (kept1 b7 rn.out)
  clear b7
  go_wp2_with fail
  refine (AG _ hy).mono ?_
  rintro e w8 ⟨rfl, b8⟩
  have bw8 := bw7.trans (b8.mono bw7.size)
  clear b8
  go_wp2_with fail
  refine (awake03_any _).mono ?_
  rintro e w9 ⟨rfl, b9⟩
  have bw9 := bw8.trans (b9.mono bw8.size)
  clear b9
  go_wp2
  go_ret
  exact ⟨rfl, bw9⟩
set_option maxRecDepth 100000 in
theorem SuperBack_ynn (w : World) (s : Sup) (n : Ind) (l : List Ext) (m : List UInt8) (a : Option Addr) (c : Nat) (x : Option Addr) (d : Nat) (y : Option Addr) (f : Nat) (hi : n.in_) (hra : RdX w a n.dir) (hrx : RdX w x l) (hry : RdB w y m) (hl : l.length ≤ 600) (hn : n.dir.length ≤ 600) (hm : m.length ≤ 10000) (ho : okX l) (hS : okS s = true) (hI : okInd n = false) (hN : okL l = false) :
    Calls Try.prog 7 #[s.val, n.val a c, .slice x l.length d, .slice y m.length f] w fun e w' => e = .returned (.bool true) ∧ Below w.heap.size w w' := by
  have P1 := fun w => PutSuper_any w s
  rw [show putS s = supB s from if_pos hS, show errS s = 0 from if_pos hS, supB_length] at P1
  have G1 := fun w a c hr => GetSuper_any w a c 4096 (supB s) (supB_length s).symm (by rw [supB_length]; decide) hr
  rw [(got_supB s hS).1, (got_supB s hS).2] at G1
  generalize supB s = SB at P1 G1
  have I1 := fun w a c hr => PutInode_any w n a c hi hr
  rw [show putInd n = [] by rw [putInd, hI]; rfl, show errInd n = 2 by rw [errInd, hI]; rfl, List.length_nil] at I1
  have J1 := fun w a c hr => GetInode_none w a c 0 [] rfl (by decide) hr gerrInd_nil
  have N1 := fun w a c hr => PutNode_any w a c _ l rfl (by omega) hr ho
  rw [show putL l = [] by rw [putL, hN]; rfl, show errL l = 2 by rw [errL, hN]; rfl, List.length_nil] at N1
  have M1 := fun w a c hr => GetNode_none w a c 0 [] rfl (by decide) hr gerrL_nil
  have AG := fun w hr => again_any w y f m hm hr
  clear hS hI hN hi ho
  obtain ⟨b, e, q, t⟩ := s
  obtain ⟨k, ln, sz, nd, dir⟩ := n
  simp only [Sup.val, Ind.val, indCells] at *
  obtain ⟨v, hv⟩ : ∃ v, v = (w.alloc (.cells #[.int .i64 b, .int .i64 e, .int .i64 q, .int .i64 t] 23)).alloc (.cells #[.int .u8 (k : Int), .int .i64 ln, .int .i64 sz, .slice a dir.length c, .int .i64 nd] 27) := ⟨_, rfl⟩
  have bv : Below w.heap.size w v := by rw [hv]; exact below_two (Below.refl _ w) (Nat.le_refl _) _ _
  have rs := hid (show v.heap[w.heap.size]? = some (.cells #[.int .i64 b, .int .i64 e, .int .i64 q, .int .i64 t] 23 (0, 0)) by rw [hv]; exact (heap_alloc_old _ _ (by simp)).trans (heap_alloc_new w _))
  have rn := hid (show v.heap[w.heap.size + 1]? = some (.cells #[.int .u8 (k : Int), .int .i64 ln, .int .i64 sz, .slice a dir.length c, .int .i64 nd] 27 (0, 0)) by rw [hv]; have := heap_alloc_new (w.alloc (.cells #[.int .i64 b, .int .i64 e, .int .i64 q, .int .i64 t] 23)) (.cells #[.int .u8 (k : Int), .int .i64 ln, .int .i64 sz, .slice a dir.length c, .int .i64 nd] 27); rw [World.size_alloc] at this; exact this)
  have ha := hra.below bv
  have hx := hrx.below bv
  have hy := hry.below bv
  go_enter Try.func7, Try.ntmps7
  go_wp2_with fail
  rw [← hv]
  clear hv hra hrx hry
  obtain ⟨f0, f1, f2, f3⟩ := four rs.out
  obtain ⟨g0, g1, g2, g3, g4⟩ := five rn.out
  go_wp2_with fail
  refine (P1 _).mono ?_
  rintro e w1 ⟨A1, c1, rfl, k1, b1⟩
  have bw1 := bv.trans (b1.mono bv.size)
  replace ha := ha.below b1
  replace hx := hx.below b1
  replace hy := hy.below b1
  replace rs := hid (kept1 b1 rs.out)
  replace rn := hid (kept1 b1 rn.out)
  clear b1
  have h1 := k1.rd
  clear k1 g0 g1 g2 g3 g4
  clear f0 f1 f2 f3
  go_wp2_with fail
  refine (G1 _ _ _ h1).mono ?_
  rintro e w2 ⟨rfl, b2⟩
  have bw2 := bw1.trans (b2.mono bw1.size)
  replace ha := ha.below b2
  replace hx := hx.below b2
  replace hy := hy.below b2
  replace rs := hid (kept1 b2 rs.out)
  replace rn := hid (kept1 b2 rn.out)
  clear b2
  clear h1
  obtain ⟨f0, f1, f2, f3⟩ := four_alloc rs.out
  obtain ⟨g0, g1, g2, g3, g4⟩ := five_alloc rn.out
  go_wp2_with fail
  refine (I1 _ _ _ (ha.alloc _)).mono ?_
  rintro e w3 ⟨A3, c3, rfl, k3, b3⟩
  have bw3 := (bw2.alloc bw2.size _).trans (b3.mono (by have := bw2.size; simp; omega))
  replace ha := (ha.below ((Below.refl _ _).alloc (Nat.le_refl _) _)).below b3
  replace hx := (hx.below ((Below.refl _ _).alloc (Nat.le_refl _) _)).below b3
  replace hy := (hy.below ((Below.refl _ _).alloc (Nat.le_refl _) _)).below b3
  replace rs := hid (kept2 b3 rs.out)
  replace rn := hid (kept2 b3 rn.out)
  clear b3
  have h3 := k3.rd
  clear k3 g0 g1 g2 g3 g4
  clear f0 f1 f2 f3
  go_wp2_with fail
  refine (J1 _ _ _ h3).mono ?_
  rintro e w4 ⟨A4, c4, rfl, b4⟩
  have bw4 := bw3.trans (b4.mono bw3.size)
  replace ha := ha.below b4
  replace hx := hx.below b4
  replace hy := hy.below b4
  replace rs := hid (kept1 b4 rs.out)
  replace rn := hid (kept1 b4 rn.out)
  clear b4
  clear h3
  go_wp2_with fail
  refine (N1 _ _ _ (hx.alloc _)).mono ?_
  rintro e w5 ⟨A5, c5, rfl, k5, b5⟩
  have bw5 := (bw4.alloc bw4.size _).trans (b5.mono (by have := bw4.size; simp; omega))
  replace ha := (ha.below ((Below.refl _ _).alloc (Nat.le_refl _) _)).below b5
  replace hx := (hx.below ((Below.refl _ _).alloc (Nat.le_refl _) _)).below b5
  replace hy := (hy.below ((Below.refl _ _).alloc (Nat.le_refl _) _)).below b5
  replace rs := hid (kept2 b5 rs.out)
  replace rn := hid (kept2 b5 rn.out)
  clear b5
  have h5 := k5.rd
  clear k5
  go_wp2_with fail
  refine (M1 _ _ _ h5).mono ?_
  rintro e w6 ⟨A6, c6, rfl, b6⟩
  have bw6 := bw5.trans (b6.mono bw5.size)
  replace ha := ha.below b6
  replace hx := hx.below b6
  replace hy := hy.below b6
  replace rs := hid (kept1 b6 rs.out)
  replace rn := hid (kept1 b6 rn.out)
  clear b6
  go_wp2_with fail
  refine (AG _ hy).mono ?_
  rintro e w7 ⟨rfl, b7⟩
  have bw7 := bw6.trans (b7.mono bw6.size)
  clear b7
  go_wp2_with fail
  refine (awake03_any _).mono ?_
  rintro e w8 ⟨rfl, b8⟩
  have bw8 := bw7.trans (b8.mono bw7.size)
  clear b8
  go_wp2
  go_ret
  exact ⟨rfl, bw8⟩
end Go.Proofs.Ytjblpejekcbokaa
