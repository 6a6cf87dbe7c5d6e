/- The walk of SuperBursts. -/
import Derived.Test.YtjblpejekcbokaaLaw03c
namespace Go.Proofs.Ytjblpejekcbokaa
open Go.RowKit
set_option maxHeartbeats 3200000
set_option linter.unusedVariables false
set_option linter.unusedSimpArgs false

theorem own_grown_other {w w1 : World} {base n : Nat} {e : TypeId} {size : Nat} {v : Value} {xs : List Value} (h : w.ownsRow base e size v n xs) {g : Nat} (hg : w.grownBy w1 (some g)) (hlt : g < base) : w1.ownsRow base e size v n xs := by
  refine h.kept hg ?_
  cases hv : v.ownBlock with
  | none => exact .inl rfl
  | some k =>
    refine .inr ?_
    have := own_base h k hv
    simp only [ne_eq, Option.some.injEq]
    omega
theorem below_grown1 {B : Nat} {w0 w w1 : World} {g : Nat} (h : Below B w0 w) (hg : w.grownBy w1 (some g)) (hB : B ≤ g) (hw : B ≤ w.heap.size) : Below B w0 w1 :=
  h.grown hg hw (fun k hk => by obtain rfl := Option.some.inj hk; exact hB)
theorem gotS_none {b : List UInt8} (h : gerrS b = 30) : gotS b = ⟨0, 0, 0, 0⟩ := by
  unfold gerrS at h
  split at h
  · cases h
  · rw [gotS, if_neg ‹_›]
theorem gotL_none {b : List UInt8} (h : gerrL b = 30) : gotL b = [] := by
  unfold gerrL at h
  split at h
  · cases h
  · rw [gotL, if_neg ‹_›]
theorem GetSuper_none (w : World) (a : Option Addr) (c N : Nat) (l : List UInt8) (hN : N = l.length) (hl : l.length ≤ 200000000000000) (hr : RdB w a l) (h : gerrS l = 30) :
    Calls Try.prog 25 #[.slice a N c] w fun e w' => e = .returned (.tuple #[.agg #[.int .i64 0, .int .i64 0, .int .i64 0, .int .i64 0], .int .i64 30]) ∧ Below w.heap.size w w' := by
  have := GetSuper_any w a c N l hN hl hr
  rw [h, gotS_none h] at this
  exact this
theorem GetNode_none (w : World) (a : Option Addr) (c N : Nat) (l : List UInt8) (hN : N = l.length) (hl : l.length ≤ 200000000000000) (hr : RdB w a l) (h : gerrL l = 30) :
    Calls Try.prog 26 #[.slice a N c] w fun e w' => ∃ A c', e = .returned (.tuple #[.slice A 0 c', .int .i64 30]) ∧ Below w.heap.size w w' := by
  have := GetNode_any w a c N l hN hl hr
  rw [h, gotL_none h] at this
  exact this.mono fun e w' ⟨A, c', h1, _, h3⟩ => ⟨A, c', h1, h3⟩
set_option maxRecDepth 100000 in
theorem SuperBursts_nn (w : World) (s : Sup) (l : List Ext) (x : Option Addr) (c : Nat) (at_ : Int) (hat : -9223372036854775808 ≤ at_ ∧ at_ ≤ 9223372036854775807) (ch : Nat) (hch : ch < 4294967296) (h0 : ch ≠ 0) (hl : l.length ≤ 600) (ho : okX l) (hrx : RdX w x l) (hS : okS s = false) (hL : okL l = false) :
    Calls Try.prog 4 #[s.val, .slice x l.length c, .int .i64 at_, .int .u32 (ch : Int)] w fun e w' => e = .returned (.bool true) ∧ Below w.heap.size w w' := by
  have P1 := fun w => PutSuper_any w s
  have N1 := fun w a c h => PutNode_any w a c l.length l rfl (by omega) h ho
  rw [show putS s = [] by rw [putS, hS]; rfl, show errS s = 2 by rw [errS, hS]; rfl] at P1
  rw [show putL l = [] by rw [putL, hL]; rfl, show errL l = 2 by rw [errL, hL]; rfl] at N1
  have hc0 : ((ch : Int) == 0) = false := by rw [beq_eq_false_iff_ne]; omega
  have hc1 : 1 ≤ ch := by omega
  clear hS hL ho h0
  obtain ⟨b, e, q, t⟩ := s
  simp only [Sup.val] at *
  go_enter Try.func4, Try.ntmps4
  go_wp2_with fail
  refine (P1 _).mono ?_
  rintro e w1 ⟨A1, c1, rfl, ga, b1⟩
  have bw1 := ((Below.refl _ w).alloc (Nat.le_refl _) _).trans (b1.mono (by simp))
  have hx := hrx.below bw1
  replace ga := ga.mono (show w.heap.size ≤ _ by simp)
  clear b1
  go_wp2_with fail
  refine (N1 _ _ _ hx).mono ?_
  rintro e w2 ⟨A2, c2, rfl, gb, b2⟩
  have bw2 := bw1.trans (b2.mono bw1.size)
  replace ga := ga.below b2
  clear b2
  go_wp2_with fail
  refine (awake03_any _).mono ?_
  rintro e w7 ⟨rfl, b7⟩
  have bw7 := bw2.trans (b7.mono (by have := bw2.size; simp; omega))
  go_wp2
  go_ret
  exact ⟨rfl, bw7⟩
set_option maxRecDepth 100000 in
theorem SuperBursts_ny (w : World) (s : Sup) (l : List Ext) (x : Option Addr) (c : Nat) (at_ : Int) (hat : -9223372036854775808 ≤ at_ ∧ at_ ≤ 9223372036854775807) (ch : Nat) (hch : ch < 4294967296) (h0 : ch ≠ 0) (hl : l.length ≤ 600) (ho : okX l) (hrx : RdX w x l) (hS : okS s = false) (hL : okL l = true) :
    Calls Try.prog 4 #[s.val, .slice x l.length c, .int .i64 at_, .int .u32 (ch : Int)] w fun e w' => e = .returned (.bool true) ∧ Below w.heap.size w w' := by
  have P1 := fun w => PutSuper_any w s
  have N1 := fun w a c h => PutNode_any w a c l.length l rfl (by omega) h ho
  rw [show putS s = [] by rw [putS, hS]; rfl, show errS s = 2 by rw [errS, hS]; rfl] at P1
  have hl2 : l.length ≤ 250 := by simp only [okL, Bool.and_eq_true, decide_eq_true_eq] at hL; exact hL.1
  rw [show putL l = nodeB l from if_pos hL, show errL l = 0 from if_pos hL, nodeB_length l hl2] at N1
  have BL := fun p (hp : p < 4085) => node_burst l hl2 p ch (by omega) hch h0
  have LL := hid (nodeB_length l hl2)
  have p2 := pickN_lt at_ 4085 (by decide)
  have K2 := fun w => Pick_val w at_ 4085 4085 rfl hat (by decide) (by decide)
  generalize pickN at_ 4085 = r at p2 K2
  replace BL := hid (BL r p2)
  generalize nodeB l = NB at *
  have hc0 : ((ch : Int) == 0) = false := by rw [beq_eq_false_iff_ne]; omega
  have hc1 : 1 ≤ ch := by omega
  clear hS hL ho h0
  obtain ⟨b, e, q, t⟩ := s
  simp only [Sup.val] at *
  go_enter Try.func4, Try.ntmps4
  go_wp2_with fail
  refine (P1 _).mono ?_
  rintro e w1 ⟨A1, c1, rfl, ga, b1⟩
  have bw1 := ((Below.refl _ w).alloc (Nat.le_refl _) _).trans (b1.mono (by simp))
  have hx := hrx.below bw1
  replace ga := ga.mono (show w.heap.size ≤ _ by simp)
  clear b1
  go_wp2_with fail
  refine (N1 _ _ _ hx).mono ?_
  rintro e w2 ⟨A2, c2, rfl, gb, b2⟩
  have bw2 := bw1.trans (b2.mono bw1.size)
  replace ga := ga.below b2
  obtain ⟨g2, rfl, hg2, _, _⟩ := gb.at_ (by intro e; have := LL.out; rw [e] at this; simp at this)
  clear b2
  go_wp2_with fail
  have gbB : OwnB w1.heap.size _ (some ⟨g2, 0, none⟩) c2 NB := gb
  refine (K2 _).mono ?_
  rintro e w' ⟨rfl, rfl⟩
  go_wp2_with fail
  refine (turned_any _ _ _ _ _ NB LL.out.symm (by rw [LL.out]; decide) gbB (8 + r) (by rw [LL.out]; omega) ch hch _ (by omega)).mono ?_
  rintro e w5 ⟨rfl, gb5, gr⟩
  have bw5 := below_grown1 (bw2) gr (by have := bw1.size; omega) (by have := bw2.size; simp; omega)
  clear gr gb gbB
  have L5 := hid (burstTo_length NB (8 + r) ch 4)
  go_wp2_with fail
  refine (GetNode_none _ _ _ _ _ (by rw [L5.out, LL.out]) (by rw [L5.out, LL.out]; decide) gb5.rd BL.out).mono ?_
  rintro e w6 ⟨A6, c6, rfl, b6⟩
  have bw6 := bw5.trans (b6.mono bw5.size)
  clear b6 gb5
  go_wp2_with fail
  refine (awake03_any _).mono ?_
  rintro e w7 ⟨rfl, b7⟩
  have bw7 := bw6.trans (b7.mono (by have := bw6.size; simp; omega))
  go_wp2
  go_ret
  exact ⟨rfl, bw7⟩
set_option maxRecDepth 100000 in
theorem SuperBursts_yn (w : World) (s : Sup) (l : List Ext) (x : Option Addr) (c : Nat) (at_ : Int) (hat : -9223372036854775808 ≤ at_ ∧ at_ ≤ 9223372036854775807) (ch : Nat) (hch : ch < 4294967296) (h0 : ch ≠ 0) (hl : l.length ≤ 600) (ho : okX l) (hrx : RdX w x l) (hS : okS s = true) (hL : okL l = false) :
    Calls Try.prog 4 #[s.val, .slice x l.length c, .int .i64 at_, .int .u32 (ch : Int)] w fun e w' => e = .returned (.bool true) ∧ Below w.heap.size w w' := by
  have P1 := fun w => PutSuper_any w s
  have N1 := fun w a c h => PutNode_any w a c l.length l rfl (by omega) h ho
  rw [show putS s = supB s from if_pos hS, show errS s = 0 from if_pos hS, supB_length] at P1
  have BS := fun p (hp : p < 37) => super_burst s p ch (by omega) hch h0
  have LS := hid (supB_length s)
  have p1 := pickN_lt at_ 37 (by decide)
  have K1 := fun w => Pick_val w at_ 37 37 rfl hat (by decide) (by decide)
  generalize pickN at_ 37 = p at p1 K1
  replace BS := hid (BS p p1)
  generalize supB s = SB at *
  rw [show putL l = [] by rw [putL, hL]; rfl, show errL l = 2 by rw [errL, hL]; rfl] at N1
  have hc0 : ((ch : Int) == 0) = false := by rw [beq_eq_false_iff_ne]; omega
  have hc1 : 1 ≤ ch := by omega
  clear hS hL ho h0
  obtain ⟨b, e, q, t⟩ := s
  simp only [Sup.val] at *
  go_enter Try.func4, Try.ntmps4
  go_wp2_with fail
  refine (P1 _).mono ?_
  rintro e w1 ⟨A1, c1, rfl, ga, b1⟩
  have bw1 := ((Below.refl _ w).alloc (Nat.le_refl _) _).trans (b1.mono (by simp))
  have hx := hrx.below bw1
  replace ga := ga.mono (show w.heap.size ≤ _ by simp)
  obtain ⟨g, rfl, hg0, _, _⟩ := ga.at_ (by intro e; have := LS.out; rw [e] at this; simp at this)
  have hgl := own_lt ga g rfl
  clear b1
  go_wp2_with fail
  refine (N1 _ _ _ hx).mono ?_
  rintro e w2 ⟨A2, c2, rfl, gb, b2⟩
  have bw2 := bw1.trans (b2.mono bw1.size)
  replace ga := ga.below b2
  clear b2
  go_wp2_with fail
  refine (K1 _).mono ?_
  rintro e w' ⟨rfl, rfl⟩
  go_wp2_with fail
  refine (turned_any _ _ _ _ _ SB LS.out.symm (by rw [LS.out]; decide) ga p (by rw [LS.out]; omega) ch hch _ rfl).mono ?_
  rintro e w3 ⟨rfl, ga3, gr⟩
  have bw3 := below_grown1 bw2 gr hg0 bw2.size
  clear gr ga
  have L3 := hid (burstTo_length SB p ch 4)
  go_wp2_with fail
  refine (GetSuper_none _ _ _ _ _ (by rw [L3.out, LS.out]) (by rw [L3.out, LS.out]; decide) ga3.rd BS.out).mono ?_
  rintro e w4 ⟨rfl, b4⟩
  have bw4 := bw3.trans (b4.mono bw3.size)
  clear b4 ga3
  go_wp2_with fail
  refine (awake03_any _).mono ?_
  rintro e w7 ⟨rfl, b7⟩
  have bw7 := (bw4.alloc bw4.size _).trans (b7.mono (by have := bw4.size; simp; omega))
  go_wp2
  go_ret
  exact ⟨rfl, bw7⟩
set_option maxRecDepth 100000 in
theorem SuperBursts_yy (w : World) (s : Sup) (l : List Ext) (x : Option Addr) (c : Nat) (at_ : Int) (hat : -9223372036854775808 ≤ at_ ∧ at_ ≤ 9223372036854775807) (ch : Nat) (hch : ch < 4294967296) (h0 : ch ≠ 0) (hl : l.length ≤ 600) (ho : okX l) (hrx : RdX w x l) (hS : okS s = true) (hL : okL l = true) :
    Calls Try.prog 4 #[s.val, .slice x l.length c, .int .i64 at_, .int .u32 (ch : Int)] w fun e w' => e = .returned (.bool true) ∧ Below w.heap.size w w' := by
  have P1 := fun w => PutSuper_any w s
  have N1 := fun w a c h => PutNode_any w a c l.length l rfl (by omega) h ho
  rw [show putS s = supB s from if_pos hS, show errS s = 0 from if_pos hS, supB_length] at P1
  have BS := fun p (hp : p < 37) => super_burst s p ch (by omega) hch h0
  have LS := hid (supB_length s)
  have p1 := pickN_lt at_ 37 (by decide)
  have K1 := fun w => Pick_val w at_ 37 37 rfl hat (by decide) (by decide)
  generalize pickN at_ 37 = p at p1 K1
  replace BS := hid (BS p p1)
  generalize supB s = SB at *
  have hl2 : l.length ≤ 250 := by simp only [okL, Bool.and_eq_true, decide_eq_true_eq] at hL; exact hL.1
  rw [show putL l = nodeB l from if_pos hL, show errL l = 0 from if_pos hL, nodeB_length l hl2] at N1
  have BL := fun p (hp : p < 4085) => node_burst l hl2 p ch (by omega) hch h0
  have LL := hid (nodeB_length l hl2)
  have p2 := pickN_lt at_ 4085 (by decide)
  have K2 := fun w => Pick_val w at_ 4085 4085 rfl hat (by decide) (by decide)
  generalize pickN at_ 4085 = r at p2 K2
  replace BL := hid (BL r p2)
  generalize nodeB l = NB at *
  have hc0 : ((ch : Int) == 0) = false := by rw [beq_eq_false_iff_ne]; omega
  have hc1 : 1 ≤ ch := by omega
  clear hS hL ho h0
  obtain ⟨b, e, q, t⟩ := s
  simp only [Sup.val] at *
  go_enter Try.func4, Try.ntmps4
  go_wp2_with fail
  refine (P1 _).mono ?_
  rintro e w1 ⟨A1, c1, rfl, ga, b1⟩
  have bw1 := ((Below.refl _ w).alloc (Nat.le_refl _) _).trans (b1.mono (by simp))
  have hx := hrx.below bw1
  replace ga := ga.mono (show w.heap.size ≤ _ by simp)
  obtain ⟨g, rfl, hg0, _, _⟩ := ga.at_ (by intro e; have := LS.out; rw [e] at this; simp at this)
  have hgl := own_lt ga g rfl
  clear b1
  go_wp2_with fail
  refine (N1 _ _ _ hx).mono ?_
  rintro e w2 ⟨A2, c2, rfl, gb, b2⟩
  have bw2 := bw1.trans (b2.mono bw1.size)
  replace ga := ga.below b2
  obtain ⟨g2, rfl, hg2, _, _⟩ := gb.at_ (by intro e; have := LL.out; rw [e] at this; simp at this)
  clear b2
  go_wp2_with fail
  refine (K1 _).mono ?_
  rintro e w' ⟨rfl, rfl⟩
  go_wp2_with fail
  refine (turned_any _ _ _ _ _ SB LS.out.symm (by rw [LS.out]; decide) ga p (by rw [LS.out]; omega) ch hch _ rfl).mono ?_
  rintro e w3 ⟨rfl, ga3, gr⟩
  have bw3 := below_grown1 bw2 gr hg0 bw2.size
  replace gb := own_grown_other gb gr hgl
  clear gr ga
  have L3 := hid (burstTo_length SB p ch 4)
  go_wp2_with fail
  refine (GetSuper_none _ _ _ _ _ (by rw [L3.out, LS.out]) (by rw [L3.out, LS.out]; decide) ga3.rd BS.out).mono ?_
  rintro e w4 ⟨rfl, b4⟩
  have bw4 := bw3.trans (b4.mono bw3.size)
  replace gb := own_below gb b4
  clear b4 ga3
  go_wp2_with fail
  replace gb := own_below gb ((Below.refl _ _).alloc (Nat.le_refl _) (.cells #[.int .i64 0, .int .i64 0, .int .i64 0, .int .i64 0] 23))
  have gbB : OwnB w1.heap.size _ (some ⟨g2, 0, none⟩) c2 NB := gb
  refine (K2 _).mono ?_
  rintro e w' ⟨rfl, rfl⟩
  go_wp2_with fail
  refine (turned_any _ _ _ _ _ NB LL.out.symm (by rw [LL.out]; decide) gbB (8 + r) (by rw [LL.out]; omega) ch hch _ (by omega)).mono ?_
  rintro e w5 ⟨rfl, gb5, gr⟩
  have bw5 := below_grown1 (bw4.alloc bw4.size _) gr (by have := bw1.size; omega) (by have := bw4.size; simp; omega)
  clear gr gb gbB
  have L5 := hid (burstTo_length NB (8 + r) ch 4)
  go_wp2_with fail
  refine (GetNode_none _ _ _ _ _ (by rw [L5.out, LL.out]) (by rw [L5.out, LL.out]; decide) gb5.rd BL.out).mono ?_
  rintro e w6 ⟨A6, c6, rfl, b6⟩
  have bw6 := bw5.trans (b6.mono bw5.size)
  clear b6 gb5
  go_wp2_with fail
  refine (awake03_any _).mono ?_
  rintro e w7 ⟨rfl, b7⟩
  have bw7 := bw6.trans (b7.mono (by have := bw6.size; simp; omega))
  go_wp2
  go_ret
  exact ⟨rfl, bw7⟩
set_option maxRecDepth 100000 in
theorem SuperBursts_any (w : World) (s : Sup) (l : List Ext) (x : Option Addr) (c : Nat) (at_ : Int) (hat : -9223372036854775808 ≤ at_ ∧ at_ ≤ 9223372036854775807) (ch : Nat) (hch : ch < 4294967296) (hl : l.length ≤ 7000000000000) (ho : okX l) (hrx : RdX w x l) :
    Calls Try.prog 4 #[s.val, .slice x l.length c, .int .i64 at_, .int .u32 (ch : Int)] w fun e w' => e = .returned (.bool true) ∧ Below w.heap.size w w' := by
  by_cases h6 : 600 < l.length
  · obtain ⟨b, e, q, t⟩ := s
    simp only [Sup.val]
    clear hrx ho
    go_enter Try.func4, Try.ntmps4
    go_wp2_with fail
    refine (awake03_any _).mono ?_
    rintro e w1 ⟨rfl, b1⟩
    have bw := ((Below.refl _ w).alloc (Nat.le_refl _) _).trans (b1.mono (by simp))
    go_wp2
    go_ret
    exact ⟨rfl, bw⟩
  · have h6' : l.length ≤ 600 := by omega
    by_cases h0 : ch = 0
    · subst h0
      obtain ⟨b, e, q, t⟩ := s
      simp only [Sup.val]
      clear hrx ho hch
      go_enter Try.func4, Try.ntmps4
      go_wp2_with fail
      refine (awake03_any _).mono ?_
      rintro e w1 ⟨rfl, b1⟩
      have bw := ((Below.refl _ w).alloc (Nat.le_refl _) _).trans (b1.mono (by simp))
      go_wp2
      go_ret
      exact ⟨rfl, bw⟩
    · cases hS : okS s <;> cases hL : okL l
      · exact SuperBursts_nn w s l x c at_ hat ch hch h0 h6' ho hrx hS hL
      · exact SuperBursts_ny w s l x c at_ hat ch hch h0 h6' ho hrx hS hL
      · exact SuperBursts_yn w s l x c at_ hat ch hch h0 h6' ho hrx hS hL
      · exact SuperBursts_yy w s l x c at_ hat ch hch h0 h6' ho hrx hS hL
end Go.Proofs.Ytjblpejekcbokaa
