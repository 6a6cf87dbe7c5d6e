/- The walk of SuperReads. -/
import Derived.Test.YtjblpejekcbokaaLaw03b
import Derived.Test.YtjblpejekcbokaaInode5
namespace Go.Proofs.Ytjblpejekcbokaa
open Go.RowKit
set_option maxHeartbeats 3200000
set_option linter.unusedVariables false
set_option linter.unusedSimpArgs false

theorem gotL_len (l : List UInt8) : (gotL l).length ≤ 65535 := by
  have := numV2_lt l 0
  unfold gotL
  split
  · rw [nodeX, xsAtB_length]; omega
  · exact Nat.zero_le _
theorem gotInd_len (l : List UInt8) : (gotInd l).dir.length ≤ 3 := by
  unfold gotInd
  split
  · simp only [readInd, xsAtB_length]; omega
  · exact Nat.zero_le _
theorem gotInd_in (l : List UInt8) : (gotInd l).in_ := by
  unfold gotInd
  split
  · exact readInd_in l
  · refine ⟨by decide, by decide, by decide, by decide, by decide, fun k hk => absurd hk (Nat.not_lt_zero _)⟩
theorem gotL_okX (l : List UInt8) : okX (gotL l) := by
  unfold gotL
  split
  · exact okX_xsAtB _ _ _
  · exact fun k hk => absurd hk (Nat.not_lt_zero _)
set_option maxRecDepth 100000 in
theorem SuperReads_any (w : World) (a : Option Addr) (c : Nat) (l : List UInt8) (hl : l.length ≤ 140737488351232) (hr : RdB w a l) :
    Calls Try.prog 6 #[.slice a l.length c] w fun e w' => e = .returned (.bool true) ∧ Below w.heap.size w w' := by
  by_cases h1 : 10000 < l.length
  · go_enter Try.func6, Try.ntmps6
    go_wp2_with fail
    refine (awake03_any _).mono ?_
    rintro e w1 ⟨rfl, b1⟩
    go_wp2
    go_ret
    exact ⟨rfl, b1⟩
  · have hl1 : l.length ≤ 10000 := by omega
    have G1 := fun w a c hr => GetSuper_any w a c l.length l rfl (by omega) hr
    have G2 := fun w a c hr => refGetSuper_any w a c l.length l rfl (by omega) hr
    have I1 := fun w a c hr => GetInode_any w a c l.length l rfl (by omega) hr
    have I2 := fun w a c hr => refGetInode_any w a c l.length l rfl (by omega) hr
    have N1 := fun w a c hr => GetNode_any w a c l.length l rfl (by omega) hr
    have N2 := fun w a c hr => refGetNode_any w a c l.length l rfl (by omega) hr
    have hin := gotInd_len l
    have hln := gotL_len l
    have SI := fun w a b c d h1 h2 => SameInode_self w (gotInd l) a b c d (by omega) h1 h2
    have SX := fun w a b c d h1 h2 => SameExtents_self w a b c d _ _ (gotL l) rfl rfl (by omega) h1 h2
    generalize gotS l = S at G1 G2
    generalize gerrS l = ES at G1 G2
    generalize gotInd l = n at I1 I2 SI hin
    generalize gerrInd l = EI at I1 I2
    generalize gotL l = X at N1 N2 SX hln
    generalize gerrL l = EX at N1 N2
    obtain ⟨b, e, q, t⟩ := S
    obtain ⟨k, ln, sz, nd, dir⟩ := n
    simp only [Sup.val, Ind.val, indCells] at *
    have LB := fun w hr => LentBytes_any w a c _ l rfl (by omega) hr
    have KB := fun w a' c' d hc h1 h2 => KeptBytes_any w a' a c' d _ l rfl (by omega) hc h1 h2
    obtain ⟨N, hN⟩ : ∃ N, N = l.length := ⟨_, rfl⟩
    have HC := fun (c' : Nat) (base : Nat) (w : World) (A : Option Addr) (h : OwnB base w A c' (l ++ [77, 78, 79])) => (show l.length + 3 ≤ c' by have := h.cap.1; simpa using this)
    go_enter Try.func6, Try.ntmps6
    go_wp2_with fail
    refine (LB _ hr).mono ?_
    rintro e w1 ⟨A1, c1, rfl, g1, b1⟩
    have bw1 := (Below.refl w.heap.size w).trans (b1.mono (Below.refl w.heap.size w).size)
    replace hr := hr.below b1
    clear b1
    have hk := g1.rd
    have hi := RdB.pre hk
    have hc3 := HC _ _ _ _ g1
    clear g1 HC hN N
    go_wp2_with fail
    refine (G1 _ _ _ hi).mono ?_
    rintro e w2 ⟨rfl, b2⟩
    have bw2 := bw1.trans (b2.mono bw1.size)
    replace hr := hr.below b2
    replace hk := hk.below b2
    replace hi := hi.below b2
    clear b2
    go_wp2_with fail
    refine (G2 _ _ _ (hr.alloc _)).mono ?_
    rintro e w3 ⟨rfl, b3⟩
    have bw3 := (bw2.alloc bw2.size _).trans (b3.mono (by have := bw2.size; simp; omega))
    replace hr := (hr.below ((Below.refl _ _).alloc (Nat.le_refl _) _)).below b3
    replace hk := (hk.below ((Below.refl _ _).alloc (Nat.le_refl _) _)).below b3
    replace hi := (hi.below ((Below.refl _ _).alloc (Nat.le_refl _) _)).below b3
    have rs := hid (keptN b3)
    clear b3
    go_wp2_with fail
    refine (I1 _ _ _ (hi.alloc _)).mono ?_
    rintro e w4 ⟨A4, c4, rfl, g4, b4⟩
    have bw4 := (bw3.alloc bw3.size _).trans (b4.mono (by have := bw3.size; simp; omega))
    replace hr := (hr.below ((Below.refl _ _).alloc (Nat.le_refl _) _)).below b4
    replace hk := (hk.below ((Below.refl _ _).alloc (Nat.le_refl _) _)).below b4
    replace hi := (hi.below ((Below.refl _ _).alloc (Nat.le_refl _) _)).below b4
    replace rs := hid (kept2 b4 rs.out)
    have rt := hid (keptN b4)
    clear b4
    have x4 := g4.rd
    go_wp2_with fail
    refine (I2 _ _ _ (hr.alloc _)).mono ?_
    rintro e w5 ⟨A5, c5, rfl, g5, b5⟩
    have bw5 := (bw4.alloc bw4.size _).trans (b5.mono (by have := bw4.size; simp; omega))
    replace hr := (hr.below ((Below.refl _ _).alloc (Nat.le_refl _) _)).below b5
    replace hk := (hk.below ((Below.refl _ _).alloc (Nat.le_refl _) _)).below b5
    replace hi := (hi.below ((Below.refl _ _).alloc (Nat.le_refl _) _)).below b5
    replace x4 := (x4.below ((Below.refl _ _).alloc (Nat.le_refl _) _)).below b5
    replace rs := hid (kept2 b5 rs.out)
    replace rt := hid (kept2 b5 rt.out)
    have rn := hid (keptN b5)
    clear b5
    have x5 := g5.rd
    go_wp2_with fail
    refine (N1 _ _ _ (hi.alloc _)).mono ?_
    rintro e w6 ⟨A6, c6, rfl, g6, b6⟩
    have bw6 := (bw5.alloc bw5.size _).trans (b6.mono (by have := bw5.size; simp; omega))
    replace hr := (hr.below ((Below.refl _ _).alloc (Nat.le_refl _) _)).below b6
    replace hk := (hk.below ((Below.refl _ _).alloc (Nat.le_refl _) _)).below b6
    replace hi := (hi.below ((Below.refl _ _).alloc (Nat.le_refl _) _)).below b6
    replace x4 := (x4.below ((Below.refl _ _).alloc (Nat.le_refl _) _)).below b6
    replace x5 := (x5.below ((Below.refl _ _).alloc (Nat.le_refl _) _)).below b6
    replace rs := hid (kept2 b6 rs.out)
    replace rt := hid (kept2 b6 rt.out)
    replace rn := hid (kept2 b6 rn.out)
    have rm := hid (keptN b6)
    clear b6
    have x6 := g6.rd
    go_wp2_with fail
    refine (N2 _ _ _ hr).mono ?_
    rintro e w7 ⟨A7, c7, rfl, g7, b7⟩
    have bw7 := bw6.trans (b7.mono bw6.size)
    replace hr := hr.below b7
    replace hk := hk.below b7
    replace hi := hi.below b7
    replace x4 := x4.below b7
    replace x5 := x5.below b7
    replace x6 := x6.below b7
    replace rs := hid (kept1 b7 rs.out)
    replace rt := hid (kept1 b7 rt.out)
    replace rn := hid (kept1 b7 rn.out)
    replace rm := hid (kept1 b7 rm.out)
    clear b7
    have x7 := g7.rd
    obtain ⟨s0, s1, s2, s3⟩ := four rs.out
    obtain ⟨t0, t1, t2, t3⟩ := four rt.out
    obtain ⟨n0, n1, n2, n3, n4⟩ := five rn.out
    obtain ⟨m0, m1, m2, m3, m4⟩ := five rm.out
    go_wp2_with fail
    refine (SI _ _ _ _ _ x4 x5).mono ?_
    rintro e w8 ⟨rfl, b8⟩
    have bw8 := bw7.trans (b8.mono bw7.size)
    replace hr := hr.below b8
    replace hk := hk.below b8
    replace hi := hi.below b8
    replace x4 := x4.below b8
    replace x5 := x5.below b8
    replace x6 := x6.below b8
    replace x7 := x7.below b8
    clear b8
    clear s0 s1 s2 s3 t0 t1 t2 t3 n0 n1 n2 n3 n4 m0 m1 m2 m3 m4 rs rt rn rm
    go_wp2_with fail
    refine (SX _ _ _ _ _ x6 x7).mono ?_
    rintro e w9 ⟨rfl, b9⟩
    have bw9 := bw8.trans (b9.mono bw8.size)
    replace hr := hr.below b9
    replace hk := hk.below b9
    replace hi := hi.below b9
    replace x4 := x4.below b9
    replace x5 := x5.below b9
    replace x6 := x6.below b9
    replace x7 := x7.below b9
    clear b9
    go_wp2_with fail
    refine (KB _ _ _ _ hc3 hk hr).mono ?_
    rintro e w' ⟨rfl, rfl⟩
    go_wp2_with fail
    refine (awake03_any _).mono ?_
    rintro e w10 ⟨rfl, b10⟩
    have bw10 := bw9.trans (b10.mono bw9.size)
    replace hr := hr.below b10
    replace hk := hk.below b10
    replace hi := hi.below b10
    replace x4 := x4.below b10
    replace x5 := x5.below b10
    replace x6 := x6.below b10
    replace x7 := x7.below b10
    clear b10
    go_wp2
    go_ret
    exact ⟨rfl, bw10⟩
end Go.Proofs.Ytjblpejekcbokaa
