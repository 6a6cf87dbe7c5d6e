/- PutNode of both sides. -/
import Derived.Test.YtahlhdhljjpeoaaExt3
namespace Go.Proofs.Ytahlhdhljjpeoaa
open Go.RowKit
set_option maxHeartbeats 1600000
set_option linter.unusedVariables false
set_option linter.unusedSimpArgs false

/-- A block of extents. -/
def inB (l : List Ext) : List UInt8 := xsTo l l.length ++ zeros (4088 - 6 * l.length)
def nodeB (l : List Ext) : List UInt8 := be l.length 2 ++ be 0 2 ++ be (crcMore 0 (inB l)) 4 ++ inB l
def okL (l : List Ext) : Bool := decide (l.length ≤ 250) && rightX l
def putL (l : List Ext) : List UInt8 := if okL l then nodeB l else []
def errL (l : List Ext) : Int := if okL l then 0 else 2
theorem inB_length (l : List Ext) (h : l.length ≤ 250) : (inB l).length = 4088 := by simp [inB, xsTo_length, zeros_length]; omega
theorem nodeB_length (l : List Ext) (h : l.length ≤ 250) : (nodeB l).length = 4096 := by simp [nodeB, be_length, inB_length l h]
set_option maxRecDepth 100000 in
theorem PutNode_any (w : World) (a : Option Addr) (c N : Nat) (l : List Ext) (hN : N = l.length) (hl : l.length ≤ 200000000000000) (hr : RdX w a l) (ho : okX l) :
    Calls Try.prog 45 #[.slice a N c] w fun e w' => ∃ A c', e = .returned (.tuple #[.slice A (putL l).length c', .int .i64 (errL l)]) ∧ OwnB w.heap.size w' A c' (putL l) ∧ Below w.heap.size w w' := by
  subst hN
  by_cases h250 : 250 < l.length
  · have hok : okL l = false := by simp [okL]; omega
    have hp := hid (show putL l = [] by rw [putL, hok]; rfl)
    have he := hid (show errL l = 2 by rw [errL, hok]; rfl)
    rw [hp.out, he.out]
    go_enter Try.func45, Try.ntmps45
    go_wp2
    go_ret2
    exact ⟨none, 0, rfl, OwnB.nil _ _, Below.refl _ _⟩
  · have h250 : l.length ≤ 250 := by omega
    by_cases hR : rightX l = true
    · have hok : okL l = true := by simp [okL, h250, hR]
      have HP := hid (show putL l = nodeB l by rw [putL, if_pos hok])
      have HE := hid (show errL l = 0 by rw [errL, if_pos hok])
      have HB : badTo l l.length = false := by simpa [rightX] using hR
      have HNL := hid (nodeB_length l h250)
      have HIL := hid (inB_length l h250)
      have HI := hid (show inB l = xsTo l l.length ++ zeros (4088 - 6 * l.length) from rfl)
      have HND := hid (show nodeB l = be l.length 2 ++ be 0 2 ++ be (crcMore 0 (inB l)) 4 ++ inB l from rfl)
      go_enter Try.func45, Try.ntmps45
      go_wp2_with fail
      refine (Right_any _ _ _ _ l rfl hl hr ho).mono ?_
      rw [hR]
      rintro e w1 ⟨rfl, b1⟩
      have hr1 := hr.below b1
      go_wp2_with fail
      refine (extents_any _ none 0 0 [] rfl (by decide) w.heap.size b1.size (OwnB.nil _ _) _ _ _ l rfl (by omega) hr1 HB).mono ?_
      rintro e w2 ⟨A2, c2, rfl, g2, b2⟩
      have bw2 := b1.trans (b2.mono b1.size)
      have hxl := hid (xsTo_length l l.length)
      simp only [List.nil_append] at g2
      go_wp2_with (at_builtin; refine app_zeros rfl (.tmp 16) (.tmp 19) rfl w.heap.size A2 c2 (6 * l.length) (xsTo l l.length) hxl.out.symm rfl g2 (4088 - 6 * l.length) _ (by omega) rfl 4088 (by rw [hxl.out]; omega) (by rw [hxl.out]; omega) w bw2 bw2.size ?_; intro A3 c3 w3 g3 b3)
      rw [← HI.out] at g3
      clear g2 b2 bw2
      have g3r := g3.rd
      have HC := hid (crcMore_lt 0 (inB l))
      obtain ⟨I, hI⟩ : ∃ I, I = inB l := ⟨_, rfl⟩
      rw [← hI] at HC HIL HND g3r
      clear hI HI g3 hxl
      refine (Add16_any _ none 0 0 [] rfl l.length _ rfl (by decide) (RdB.nil _ _) (by omega)).mono ?_
      rintro e w4 ⟨A4, c4, rfl, g4, b4⟩
      have bw4 := b3.trans (b4.mono b3.size)
      have r4 := g4.rd
      have l4 := hid (show ([] ++ be l.length 2).length = 2 by simp [be_length])
      go_wp2_with fail
      refine (Add16_any _ _ _ _ ([] ++ be l.length 2) l4.out.symm 0 _ rfl (by rw [l4.out]; decide) r4 (by decide)).mono ?_
      rintro e w5 ⟨A5, c5, rfl, g5, b5⟩
      have b45 := b4.trans (b5.mono b4.size)
      have bw5 := bw4.trans (b5.mono bw4.size)
      have r5 := g5.rd
      have l5 := hid (show ([] ++ be l.length 2 ++ be 0 2).length = 4 by simp [be_length])
      go_wp2_with fail
      refine (Crc_any _ _ _ _ I HIL.out.symm (by rw [HIL.out]; decide) (g3r.below b45)).mono ?_
      rintro e w6 ⟨rfl, b6⟩
      have b46 := b45.trans (b6.mono b45.size)
      have bw6 := bw5.trans (b6.mono bw5.size)
      go_wp2_with fail
      refine (Add32_any _ _ _ _ ([] ++ be l.length 2 ++ be 0 2) l5.out.symm (crcMore 0 I) _ rfl (by rw [l5.out]; decide) (r5.below b6) HC.out).mono ?_
      rintro e w7 ⟨A7, c7, rfl, g7, b7⟩
      have b47 := b46.trans (b7.mono b46.size)
      have bw7 := bw6.trans (b7.mono bw6.size)
      have g7 := g7.mono bw6.size
      have l7 := hid (show ([] ++ be l.length 2 ++ be 0 2 ++ be (crcMore 0 I) 4).length = 8 by simp [be_length])
      go_wp2_with (at_builtin; refine app_bytes rfl (.tmp 29) (.tmp 30) rfl w.heap.size A7 c7 8 _ l7.out.symm rfl g7 A3 4088 c3 I rfl HIL.out.symm (g3r.below b47) 4096 (by rw [l7.out, HIL.out]) (by rw [l7.out, HIL.out]; decide) w bw7 bw7.size ?_; intro A8 c8 w8 g8 b8 _ _)
      go_ret2
      refine ⟨A8, c8, ?_, ?_, b8⟩
      · rw [HP.out, HE.out, HNL.out]; rfl
      · rw [HP.out, HND.out]; exact g8
    · have hR := eq_false_of_ne_true hR
      have hok : okL l = false := by simp [okL, hR]
      have hp := hid (show putL l = [] by rw [putL, hok]; rfl)
      have he := hid (show errL l = 2 by rw [errL, hok]; rfl)
      rw [hp.out, he.out]
      go_enter Try.func45, Try.ntmps45
      go_wp2_with fail
      refine (Right_any _ _ _ _ l rfl hl hr ho).mono ?_
      rw [hR]
      rintro e w1 ⟨rfl, b1⟩
      go_wp2
      go_ret2
      exact ⟨none, 0, rfl, OwnB.nil _ _, b1⟩
end Go.Proofs.Ytahlhdhljjpeoaa
