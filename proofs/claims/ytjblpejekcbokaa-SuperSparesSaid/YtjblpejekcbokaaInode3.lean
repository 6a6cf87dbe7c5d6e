/- The document's PutInode. -/
import Derived.Test.YtjblpejekcbokaaInode2
namespace Go.Proofs.Ytjblpejekcbokaa
open Go.RowKit
set_option maxHeartbeats 1600000
set_option linter.unusedVariables false
set_option linter.unusedSimpArgs false

set_option maxRecDepth 100000 in
theorem refPutInode_any (w : World) (n : Ind) (a : Option Addr) (c : Nat) (hi : n.in_) (hr : RdX w a n.dir) :
    Calls Try.prog 15 #[n.val a c] w fun e w' => ∃ A c', e = .returned (.tuple #[.slice A (putInd n).length c', .int .i64 (errInd n)]) ∧ OwnB w.heap.size w' A c' (putInd n) ∧ Below w.heap.size w w' := by
  have hmk := fun W => run_mkB 64 64 64 rfl rfl (by decide) W
  by_cases hok : okInd n = true
  · have hp := hid (show putInd n = indB n by rw [putInd, if_pos hok])
    have he := hid (show errInd n = 0 by rw [errInd, if_pos hok])
    have hL := hid (indB_length (okInd_len hok))
    rw [hp.out, he.out]
    by_cases hk0 : n.k = 0
    · have hz := hid (show indB n = zeros 64 by rw [indB, if_pos hk0])
      rw [hz.out]
      obtain ⟨k, ln, sz, nd, l⟩ := n
      simp only [Ind.val, indCells] at *
      subst hk0
      rw [okInd_free rfl, decide_eq_true_eq] at hok
      obtain ⟨rfl, rfl, rfl, h4⟩ := hok
      obtain rfl := List.eq_nil_of_length_eq_zero h4
      clear h4
      simp only [List.length_nil]
      go_enter Try.func15, Try.ntmps15
      go_wp2
      go_ret2
      exact ⟨_, _, rfl, (by have := OwnB.made (base := w.heap.size) (w.alloc (.cells #[.int .u8 0, .int .i64 0, .int .i64 0, .slice a 0 c, .int .i64 0] 27)) 64 (by simp) (by decide); simpa using this), ((Below.refl _ w).alloc (Nat.le_refl _) _).alloc (by simp) _⟩
    · have hb := hid (show indB n = indM n ++ be (crcMore 0 (indM n)) 4 by rw [indB, if_neg hk0])
      have hd : okInd n = _ := if_neg hk0
      rw [hok] at hd
      replace hd := hd.symm
      rw [Bool.and_eq_true, decide_eq_true_eq] at hd
      obtain ⟨⟨d1, ⟨d2, d3⟩, ⟨d4, d5⟩, ⟨d6, d7⟩, d8⟩, d9⟩ := hd
      have LF := hid (indF_length d8)
      have LM := hid (indM_length d8)
      have EF := hid (show indF n = ([byteOf n.k, byteOf n.dir.length] ++ be n.ln.toNat 2 ++ be n.sz.toNat 4 ++ xsTo n.dir n.dir.length) ++ zeros (18 - 6 * n.dir.length) from rfl)
      have EM := hid (show indM n = (indF n ++ be n.nd.toNat 2) ++ zeros 32 from rfl)
      have HB := hid (show badTo n.dir n.dir.length = false by simpa [rightX] using d9)
      have hx := hid hi.2.2.2.2.2
      have hk8 := hi.1
      clear hok hi
      rw [hb.out]
      obtain ⟨F, hF⟩ : ∃ F, F = indF n := ⟨_, rfl⟩
      obtain ⟨M, hM⟩ : ∃ M, M = indM n := ⟨_, rfl⟩
      rw [← hF] at LF EF EM
      rw [← hM] at LM EM hb ⊢
      rw [hb.out] at hL
      clear hF hM hp he hb
      obtain ⟨k, ln, sz, nd, l⟩ := n
      simp only [Ind.val, indCells] at *
      have R := fun w hr => refRight_any w a c _ l rfl (by omega) hr hx.out
      rw [d9] at R
      obtain ⟨ln, rfl⟩ := Int.eq_ofNat_of_zero_le d2
      obtain ⟨sz, rfl⟩ := Int.eq_ofNat_of_zero_le d4
      obtain ⟨nd, rfl⟩ := Int.eq_ofNat_of_zero_le d6
      simp only [Int.toNat_natCast] at EF EM
      have hk1 : ((k : Int) == 0) = false := by rw [beq_eq_false_iff_ne]; omega
      have hk2 : 1 ≤ k := by omega
      clear hk0 d9
      go_enter Try.func15, Try.ntmps15
      go_wp2_with fail
      refine (R _ (hr.below ((Below.refl _ w).alloc (Nat.le_refl _) _))).mono ?_
      rintro e w1 ⟨rfl, b1⟩
      have bw1 := ((Below.refl _ w).alloc (Nat.le_refl _) _).trans (b1.mono (by simp))
      have hrow := hid (keptN b1)
      obtain ⟨f0, f1, f2, f3, f4⟩ := five hrow.out
      have sv := And.intro f0 (And.intro f1 (And.intro f2 f3))
      have hw8 : IntKind.i64.wrap (k : Int) = (k : Int) := IntWalk.i64_in _ (by omega)
      have EQ := hid (show [] ++ be k 1 ++ be l.length 1 ++ be ln 2 ++ be sz 4 = [byteOf k, byteOf l.length] ++ be ln 2 ++ be sz 4 by rw [be1, be1]; rfl)
      have l0 : ([] : List UInt8).length = 0 := rfl
      have l1 : ([] ++ be k 1).length = 1 := by simp [be_length]
      have l2 : ([] ++ be k 1 ++ be l.length 1).length = 2 := by simp [be_length]
      have l3 : ([] ++ be k 1 ++ be l.length 1 ++ be ln 2).length = 4 := by simp [be_length]
      have L0 := hid l0; have L1 := hid l1; have L2 := hid l2; have L3 := hid l3
      have LL1 := hid (show ([byteOf k, byteOf l.length] ++ be ln 2 ++ be sz 4).length = 8 by simp [be_length])
      have LL2 := hid (show ([byteOf k, byteOf l.length] ++ be ln 2 ++ be sz 4 ++ xsTo l l.length).length = 8 + 6 * l.length by simp only [List.length_append, xsTo_length, be_length]; rfl)
      clear b1 R l0 l1 l2 l3 f0 f1 f2 f3 f4
      have r0 : RdB w1.drew none [] := RdB.nil _ _
      go_wp2_with fail
      go_region_held3 (fun W => W.cell? ⟨w.heap.size, 0, none⟩ = some (.int .u8 (k : Int)) ∧ W.cell? ⟨w.heap.size, 1, none⟩ = some (.int .i64 (ln : Int)) ∧ W.cell? ⟨w.heap.size, 2, none⟩ = some (.int .i64 (sz : Int)) ∧ W.cell? ⟨w.heap.size, 3, none⟩ = some (.slice a l.length c))
        (first | exact sv | exact s1 | exact s2 | exact s3 | exact s4)
        (first
        | (go_at_call_of 41 (k); refine (radd1_any w1.drew _ _ _ [] k L0.out (by decide) r0 (by omega)).mono ?_; rintro e w2 ⟨A2, c2, rfl, g2, b2⟩; have bb2 := below_drew' b2; have s1 := keep4' sv bb2)
        | (go_at_call_of 41 (l.length); refine (radd1_any _ _ _ _ ([] ++ be k 1) l.length L1.out (by decide) g2.rd (by omega)).mono ?_; rintro e w3 ⟨A3, c3, rfl, g3, b3⟩; have bb3 := bb2.trans (b3.mono bb2.size); have s2 := keep4' sv bb3)
        | (go_at_call_of 41 (ln); refine (radd2_any _ _ _ _ ([] ++ be k 1 ++ be l.length 1) ln L2.out (by decide) g3.rd (by omega)).mono ?_; rintro e w4 ⟨A4, c4, rfl, g4, b4⟩; have bb4 := bb3.trans (b4.mono bb3.size); have s3 := keep4' sv bb4)
        | (go_at_call_of 41 (sz); refine (radd4_any _ _ _ _ ([] ++ be k 1 ++ be l.length 1 ++ be ln 2) sz L3.out (by decide) g4.rd (by omega)).mono ?_; rintro e w5 ⟨A5, c5, rfl, g5, b5⟩; have bb5 := bb4.trans (b5.mono bb4.size); have s4 := keep4' sv bb5))
      rw [EQ.out] at g5
      have g5m := g5.mono bb4.size
      clear hw8 sv s1 s2 s3 g2 g3 g4 g5 b2 b3 b4 b5 bb2 bb3 bb4 EQ L0 L1 L2 L3 r0
      obtain ⟨f0, f1, f2, f3, f4⟩ := five (kept1 bb5 hrow.out)
      clear s4
      go_wp2_with fail
      refine (refextents_any _ _ _ 8 ([byteOf k, byteOf l.length] ++ be ln 2 ++ be sz 4) LL1.out (by decide) w1.heap.size bb5.size g5m _ _ _ l rfl (by omega) (hr.below (bw1.trans (bb5.mono bw1.size))) HB.out).mono ?_
      rintro e w6 ⟨A6, c6, rfl, g6, b6⟩
      have bb6 := bb5.trans (b6.mono bb5.size)
      clear f0 f1 f2 f3 f4 b6 g5m
      obtain ⟨P, hP⟩ : ∃ P, P = [byteOf k, byteOf l.length] ++ be ln 2 ++ be sz 4 ++ xsTo l l.length := ⟨_, rfl⟩
      rw [← hP] at g6 EF LL2
      clear hP
      go_wp2_with fail
      go_loopw [4] (fun x wr => ∃ (j : Nat) (A : Option Addr) (c' : Nat), j ≤ 18 - 6 * l.length ∧ x = .slice A (8 + 6 * l.length + j) c' ∧ OwnB w1.heap.size wr A c' (P ++ zeros j) ∧ Below w1.heap.size w1 wr) (fun x _ => 26 - lenOfV x)
      case atStart => exact ⟨0, A6, c6, by omega, by simp, by simpa [zeros] using g6, bb6⟩
      case round =>
        obtain ⟨j, A, c', hj, rfl, hO, hbl⟩ := hrel
        by_cases hlt : j < 18 - 6 * l.length
        · have hlt' : 8 + 6 * l.length + j < 26 := by omega
          have HO' := hid hO; clear hO
          go_wp2_with (at_builtin; refine app_bytes rfl (.tmp 94) (.tmp 95) rfl w1.heap.size A c' (8 + 6 * l.length + j) (P ++ zeros j) (by rw [List.length_append, LL2.out, zeros_length]) rfl (HO'.out.below ((Below.refl _ _).alloc (Nat.le_refl _) _)) (some ⟨_, 0, none⟩) 1 1 [0] rfl rfl (RdB.lit _ _ _ _ (by simp [B8s, B8]) rfl) (8 + 6 * l.length + j + 1) (by rw [List.length_append, LL2.out, zeros_length]; rfl) (by rw [List.length_append, LL2.out, zeros_length]; simp; omega) w1 (hbl.alloc hbl.size _) (by have := hbl.size; simp; omega) ?_; intro A1 c1 w7 h7 b7 _ _)
          go_roundw
          case rel => exact ⟨j + 1, A1, c1, by omega, rfl, by rw [zeros_succ, ← List.append_assoc]; exact h7, b7⟩
          case measure => simp [lenOfV]; omega
        · obtain rfl : j = 18 - 6 * l.length := by omega
          have hk4 : 8 + 6 * l.length + (18 - 6 * l.length) = 26 := by omega
          rw [hk4]
          rw [← EF.out] at hO
          have hOr := hO.rd
          obtain ⟨f0, f1, f2, f3, f4⟩ := five (kept1 hbl hrow.out)
          have LF2 := hid (show (F ++ be nd 2).length = 28 by rw [List.length_append, LF.out, be_length])
          clear hk4 hlt hj hO
          go_wp2_with fail
          refine (radd2_any _ _ _ _ F nd LF.out (by decide) hOr (by omega)).mono ?_
          rintro e w8 ⟨A8, c8, rfl, g8, b8⟩
          have bb8 := hbl.trans (b8.mono hbl.size)
          have g8 := g8.mono hbl.size
          clear f0 f1 f2 f3 f4 b8 hOr
          obtain ⟨wo, hwo⟩ : ∃ wo : World, wo = wr := ⟨_, rfl⟩
          clear hwo wo
          go_wp2_with fail
          go_loopw [4] (fun x wr => ∃ (j : Nat) (A : Option Addr) (c' : Nat), j ≤ 32 ∧ x = .slice A (28 + j) c' ∧ OwnB w1.heap.size wr A c' (F ++ be nd 2 ++ zeros j) ∧ Below w1.heap.size w1 wr) (fun x _ => 60 - lenOfV x)
          case atStart => exact ⟨0, A8, c8, by omega, rfl, by simpa [zeros] using g8, bb8⟩
          case round =>
            obtain ⟨j, A, c', hj, rfl, hO, hbl⟩ := hrel
            by_cases hlt : j < 32
            · have hlt' : 28 + j < 60 := by omega
              have HO' := hid hO; clear hO
              go_wp2_with (at_builtin; refine app_bytes rfl (.tmp 104) (.tmp 105) rfl w1.heap.size A c' (28 + j) (F ++ be nd 2 ++ zeros j) (by rw [List.length_append, LF2.out, zeros_length]) rfl (HO'.out.below ((Below.refl _ _).alloc (Nat.le_refl _) _)) (some ⟨_, 0, none⟩) 1 1 [0] rfl rfl (RdB.lit _ _ _ _ (by simp [B8s, B8]) rfl) (28 + j + 1) (by rw [List.length_append, LF2.out, zeros_length]; rfl) (by rw [List.length_append, LF2.out, zeros_length]; simp; omega) w1 (hbl.alloc hbl.size _) (by have := hbl.size; simp; omega) ?_; intro A1 c1 w9 h9 b9 _ _)
              go_roundw
              case rel => exact ⟨j + 1, A1, c1, by omega, rfl, by rw [zeros_succ, ← List.append_assoc]; exact h9, b9⟩
              case measure => simp [lenOfV]; omega
            · obtain rfl : j = 32 := by omega
              rw [← EM.out] at hO
              have hOr := hO.rd
              have HC := crcMore_lt 0 M
              clear hlt hj hO
              go_wp2_with fail
              refine (refMore_any _ 0 _ rfl (by omega) _ _ _ M LM.out.symm (by rw [LM.out]; decide) hOr).mono ?_
              rintro e w' ⟨rfl, rfl⟩
              go_wp2_with fail
              refine (radd4_any _ _ _ _ M (crcMore 0 M) LM.out (by decide) hOr (by omega)).mono ?_
              rintro e wf ⟨Af, cf, rfl, gf, bf⟩
              have bbf := hbl.trans (bf.mono hbl.size)
              go_wp2
              go_ret2
              refine ⟨Af, cf, ?_, gf.mono (bw1.trans (hbl.mono bw1.size)).size, bw1.trans (bbf.mono bw1.size)⟩
              rw [hL.out]
              rfl
  · have hok := eq_false_of_ne_true hok
    have hp := hid (show putInd n = [] by rw [putInd, hok]; rfl)
    have he := hid (show errInd n = 2 by rw [errInd, hok]; rfl)
    rw [hp.out, he.out]
    refine (refPutInode_no w n a c hi hr hok).mono ?_
    rintro e w' ⟨rfl, b⟩
    exact ⟨none, 0, rfl, OwnB.nil _ _, b⟩
end Go.Proofs.Ytjblpejekcbokaa
