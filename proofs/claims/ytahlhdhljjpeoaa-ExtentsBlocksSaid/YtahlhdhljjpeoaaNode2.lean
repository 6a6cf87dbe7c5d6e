/- The document's PutNode. -/
import Derived.Test.YtahlhdhljjpeoaaNode
namespace Go.Proofs.Ytahlhdhljjpeoaa
open Go.RowKit
set_option maxHeartbeats 1600000
set_option linter.unusedVariables false
set_option linter.unusedSimpArgs false

set_option maxRecDepth 100000 in
theorem refPutNode_any (w : World) (a : Option Addr) (c N : Nat) (l : List Ext) (hN : N = l.length) (hl : l.length ≤ 200000000000000) (hr : RdX w a l) (ho : okX l) :
    Calls Try.prog 84 #[.slice a N c] w fun e w' => ∃ A c', e = .returned (.tuple #[.slice A (putL l).length c', .int .i64 (errL l)]) ∧ OwnB w.heap.size w' A c' (putL l) ∧ Below w.heap.size w w' := by
  subst hN
  by_cases h250 : 250 < l.length
  · have hok : okL l = false := by simp [okL]; omega
    have hp := hid (show putL l = [] by rw [putL, hok]; rfl)
    have he := hid (show errL l = 2 by rw [errL, hok]; rfl)
    rw [hp.out, he.out]
    go_enter Try.func84, Try.ntmps84
    go_wp2
    go_ret2
    exact ⟨none, 0, rfl, OwnB.nil _ _, Below.refl _ _⟩
  · have h250 : l.length ≤ 250 := by omega
    by_cases hR : rightX l = true
    · have hok : okL l = true := by simp [okL, h250, hR]
      have HP := hid (show putL l = nodeB l by rw [putL, if_pos hok])
      have HE := hid (show errL l = 0 by rw [errL, if_pos hok])
      have HB : badTo l l.length = false := by simpa [rightX] using hR
      have HNL := hid (nodeB_length l h250)
      have HIL := hid (inB_length l h250)
      have HI := hid (show inB l = xsTo l l.length ++ zeros (4088 - 6 * l.length) from rfl)
      have HND := hid (show nodeB l = be l.length 2 ++ be 0 2 ++ be (crcMore 0 (inB l)) 4 ++ inB l from rfl)
      go_enter Try.func84, Try.ntmps84
      go_wp2_with fail
      refine (refRight_any _ _ _ _ l rfl hl hr ho).mono ?_
      rw [hR]
      rintro e w1 ⟨rfl, b1⟩
      have hr1 := hr.below b1
      go_wp2_with fail
      refine (refextents_any _ none 0 0 [] rfl (by decide) w.heap.size b1.size (OwnB.nil _ _) _ _ _ l rfl (by omega) hr1 HB).mono ?_
      rintro e w2 ⟨A2, c2, rfl, g2, b2⟩
      have bw2 := b1.trans (b2.mono b1.size)
      have hxl := hid (xsTo_length l l.length)
      simp only [List.nil_append] at g2
      go_wp2_with fail
      go_loopw [4] (fun x wr => ∃ (k : Nat) (A : Option Addr) (c' : Nat), k ≤ 4088 - 6 * l.length ∧ x = .slice A (6 * l.length + k) c' ∧ OwnB w.heap.size wr A c' (xsTo l l.length ++ zeros k) ∧ Below w.heap.size w wr) (fun x _ => 4088 - lenOfV x)
      case atStart => exact ⟨0, A2, c2, by omega, by simp, by simpa [zeros] using g2, bw2⟩
      case round =>
       obtain ⟨k, A, c', hk, rfl, hO, hbl⟩ := hrel
       by_cases hlt : k < 4088 - 6 * l.length
       · have hlt' : 6 * l.length + k < 4088 := by omega
         have HO' := hid hO; clear hO
         go_wp2_with (at_builtin; refine app_bytes rfl (.tmp 19) (.tmp 20) rfl w.heap.size A c' (6 * l.length + k) (xsTo l l.length ++ zeros k) (by rw [List.length_append, hxl.out, zeros_length]) rfl (HO'.out.below ((Below.refl _ _).alloc (Nat.le_refl _) _)) (some ⟨_, 0, none⟩) 1 1 [0] rfl rfl (RdB.lit _ _ _ _ (by simp [B8s, B8]) rfl) (6 * l.length + k + 1) (by rw [List.length_append, hxl.out, zeros_length]; rfl) (by rw [List.length_append, hxl.out, zeros_length]; simp; omega) w (hbl.alloc hbl.size _) (by have := hbl.size; simp; omega) ?_; intro A1 c1 w6 h6 b6 _ _)
         go_roundw
         case rel => exact ⟨k + 1, A1, c1, by omega, rfl, by rw [zeros_succ, ← List.append_assoc]; exact h6, b6⟩
         case measure => simp [lenOfV]; omega
       · obtain rfl : k = 4088 - 6 * l.length := by omega
         have hk4 : 6 * l.length + (4088 - 6 * l.length) = 4088 := by omega
         rw [hk4]
         rw [← HI.out] at hO
         have g3r := hO.rd
         have HC := hid (crcMore_lt 0 (inB l))
         obtain ⟨I, hI⟩ : ∃ I, I = inB l := ⟨_, rfl⟩
         rw [← hI] at HC HIL HND g3r
         clear hI HI hO hxl hk4 hlt hk g2 b2 bw2
         go_wp2_with fail
         refine (radd2_any _ none 0 0 [] l.length rfl (by decide) (RdB.nil _ _) (by omega)).mono ?_
         rintro e w4 ⟨A4, c4, rfl, g4, b4⟩
         have bw4 := hbl.trans (b4.mono hbl.size)
         have r4 := g4.rd
         have l4 := hid (show ([] ++ be l.length 2).length = 2 by simp [be_length])
         go_wp2_with fail
         refine (radd_any _ _ _ _ ([] ++ be l.length 2) l4.out.symm 0 2 _ _ rfl rfl (by rw [l4.out]; decide) r4 (by decide) (by decide)).mono ?_
         rintro e w5 ⟨A5, c5, rfl, g5, b5⟩
         have b45 := b4.trans (b5.mono b4.size)
         have bw5 := bw4.trans (b5.mono bw4.size)
         have r5 := g5.rd
         have l5 := hid (show ([] ++ be l.length 2 ++ be 0 2).length = 4 by simp [be_length])
         go_wp2_with fail
         refine (refMore_any _ 0 _ rfl (by omega) _ _ _ I HIL.out.symm (by rw [HIL.out]; decide) (g3r.below b45)).mono ?_
         rintro e w' ⟨rfl, rfl⟩
         have HC' := HC.out
         go_wp2_with fail
         refine (radd_any _ _ _ _ ([] ++ be l.length 2 ++ be 0 2) l5.out.symm (crcMore 0 I) 4 _ _ rfl rfl (by rw [l5.out]; decide) r5 (by decide) (by have := HC.out; omega)).mono ?_
         rintro e w7 ⟨A7, c7, rfl, g7, b7⟩
         have b47 := b45.trans (b7.mono b45.size)
         have bw7 := bw5.trans (b7.mono bw5.size)
         have g7 := g7.mono bw5.size
         have l7 := hid (show ([] ++ be l.length 2 ++ be 0 2 ++ be (crcMore 0 I) 4).length = 8 by simp [be_length])
         go_wp2_with (at_builtin; refine app_bytes rfl (.tmp 30) (.tmp 31) rfl w.heap.size A7 c7 8 ([] ++ be l.length 2 ++ be 0 2 ++ be (crcMore 0 I) 4) l7.out.symm rfl g7 A 4088 c' I rfl HIL.out.symm (g3r.below b47) 4096 (by rw [l7.out, HIL.out]) (by rw [l7.out, HIL.out]; decide) w bw7 bw7.size ?_; intro A8 c8 w8 g8 b8 _ _)
         go_ret2
         refine ⟨A8, c8, ?_, ?_, b8⟩
         · rw [HP.out, HE.out, HNL.out]; rfl
         · rw [HP.out, HND.out]; exact g8
    · have hR := eq_false_of_ne_true hR
      have hok : okL l = false := by simp [okL, hR]
      have hp := hid (show putL l = [] by rw [putL, hok]; rfl)
      have he := hid (show errL l = 2 by rw [errL, hok]; rfl)
      rw [hp.out, he.out]
      go_enter Try.func84, Try.ntmps84
      go_wp2_with fail
      refine (refRight_any _ _ _ _ l rfl hl hr ho).mono ?_
      rw [hR]
      rintro e w1 ⟨rfl, b1⟩
      go_wp2
      go_ret2
      exact ⟨none, 0, rfl, OwnB.nil _ _, b1⟩
end Go.Proofs.Ytahlhdhljjpeoaa
