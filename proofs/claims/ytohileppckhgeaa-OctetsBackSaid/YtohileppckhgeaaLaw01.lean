/- The walks of the statements of layer 1. -/
import Derived.Test.YtohileppckhgeaaOct2
import Derived.Test.YtohileppckhgeaaLow
namespace Go.Proofs.Ytohileppckhgeaa
open Go.RowKit
set_option maxHeartbeats 400000
set_option linter.unusedVariables false
set_option linter.unusedSimpArgs false

theorem awake01_any (w : World) : Calls Try.prog 32 #[] w fun e w' => e = .returned (.bool true) ∧ Below w.heap.size w w' := by
  have k1 : numV [128, 0, 0, 1] 0 4 = 2147483649 := by decide
  have k2 : numOk [128, 0, 0, 1] 0 4 = true := by decide
  have K := hid (And.intro k1 k2); clear k1 k2
  have b1 := (Below.refl w.heap.size w).alloc (Nat.le_refl _) (.cells #[.int .u8 128, .int .u8 0, .int .u8 0, .int .u8 1] 5)
  go_enter Try.func32, Try.ntmps32
  go_wp2_with (first
    | (go_at_call 36; refine (U32_any _ _ _ _ [128, 0, 0, 1] rfl 0 (by decide) (RdB.lit w _ _ _ rfl (by simp)) (by decide)).mono ?_; rw [K.out.1, K.out.2]; rintro e w' ⟨rfl, rfl⟩)
    | (go_at_call 38; refine (AddText_any _ none 0 _ [] rfl ⟨#[5, 6]⟩ (by decide) (RdB.nil _ _) (by decide)).mono ?_; rintro e w2 ⟨A, c', rfl, h1, h2⟩; have b2 := b1.trans (h2.mono (by simp))))
  have r1 : RdB w2 A [0, 2, 5, 6] := by
    have := h1.rd
    rwa [show [] ++ be (ByteArray.mk #[5, 6]).size 2 ++ (ByteArray.mk #[5, 6]).data.toList = [0, 2, 5, 6] by decide] at this
  refine (SameBytes_any _ _ _ _ _ _ _ [0, 2, 5, 6] [0, 2, 5, 6] rfl rfl (r1.alloc _) (RdB.lit w2 _ _ _ rfl (by simp))).mono ?_
  rintro e w3 ⟨rfl, rfl⟩
  go_wp2_with fail
  have b3 := (b2.alloc (by have := b2.size; simp at this ⊢; omega) (.cells #[.int .u8 0, .int .u8 2, .int .u8 5, .int .u8 6] 5)).alloc (by have := b2.size; simp at this ⊢; omega) (.cells #[.int .u8 9] 5)
  refine (Add32_any _ _ _ _ [9] rfl 258 258 rfl (by decide) (RdB.lit _ _ _ _ rfl (by simp)) (by decide)).mono ?_
  rintro e w4 ⟨A4, c4, rfl, h4, b4⟩
  have b5 := b3.trans (b4.mono (by have := b3.size; simp at this ⊢; omega))
  go_wp2_with fail
  have r4 : RdB w4 A4 [9, 0, 0, 1, 2] := by
    have := h4.rd
    rwa [show [9] ++ be 258 4 = [9, 0, 0, 1, 2] by decide] at this
  refine (SameBytes_any _ _ _ _ _ _ _ [9, 0, 0, 1, 2] [9, 0, 0, 1, 2] rfl rfl (r4.alloc _) (RdB.lit w4 _ _ _ rfl (by simp))).mono ?_
  rintro e w5 ⟨rfl, rfl⟩
  go_wp2
  go_ret
  exact ⟨rfl, b5.alloc b5.size _⟩

set_option maxRecDepth 100000 in
theorem OctetsTells_any (w : World) (a : Option Addr) (c : Nat) (l : List UInt8) (t : ByteArray) (p : Int) (v : Nat) (hl : l.length ≤ 140737488351232) (hc : l.length ≤ c) (ht : t.size ≤ 140737488351232) (hr : RdB w a l)
    (hp : -9223372036854775808 ≤ p ∧ p ≤ 9223372036854775807) (hv : v < 18446744073709551616) :
    Calls Try.prog 12 #[.slice a l.length c, .string t, .int .i64 p, .int .u64 (v : Int)] w fun e w' => e = .returned (.bool true) ∧ Below w.heap.size w w' := by
  have q1 : numV l p 1 < 256 := numV_lt l p 1
  have q2 : numV l p 2 < 65536 := numV_lt l p 2
  have q4 : numV l p 4 < 4294967296 := numV_lt l p 4
  have HP := hid hp; clear hp
  go_enter Try.func12, Try.ntmps12
  go_wp2_with fail
  refine (LentBytes_any _ _ _ _ l rfl (by omega) hr).mono ?_
  rintro e w1 ⟨A, c', rfl, h1, b1⟩
  have hk := h1.rd
  have hcap : l.length + 3 ≤ c' := by simpa using h1.cap.1
  have hr1 := hr.below b1
  have hin : RdB w1 A l := by
    intro hn
    obtain ⟨b, off, rfl, hc⟩ := hk (by simp [B8s])
    exact RdB.below (w := w1) (by simpa using RdB.part hk 0 l.length) (Below.refl _ _) hn
  clear h1
  have HK := hid hk; clear hk
  go_wp2_with (first
    | (go_at_call 35; refine (U8_any _ _ _ _ l rfl p (by omega) hin HP.out).mono ?_; rintro e w' ⟨rfl, rfl⟩)
    | (go_at_call 33; refine (U16_any _ _ _ _ l rfl p (by omega) hin HP.out).mono ?_; rintro e w' ⟨rfl, rfl⟩)
    | (go_at_call 36; refine (U32_any _ _ _ _ l rfl p (by omega) hin HP.out).mono ?_; rintro e w' ⟨rfl, rfl⟩)
    | (go_at_call 34; refine (U64_any _ _ _ _ l rfl p (by omega) hin HP.out).mono ?_; rintro e w' ⟨rfl, rfl⟩))
  refine (Number_any _ _ _ _ l rfl p 1 (by omega) hr1 HP.out (by omega)).mono ?_; rintro e w' ⟨rfl, rfl⟩
  go_wp2_with fail
  refine (Number_any _ _ _ _ l rfl p 2 (by omega) hr1 HP.out (by omega)).mono ?_; rintro e w' ⟨rfl, rfl⟩
  go_wp2_with fail
  refine (Number_any _ _ _ _ l rfl p 4 (by omega) hr1 HP.out (by omega)).mono ?_; rintro e w' ⟨rfl, rfl⟩
  go_wp2_with fail
  refine (Number_any _ _ _ _ l rfl p 8 (by omega) hr1 HP.out (by omega)).mono ?_; rintro e w' ⟨rfl, rfl⟩
  go_wp2_with fail
  refine (Add8_any _ _ _ _ l rfl (v % 256) _ (by simp) (by omega) hin (by omega)).mono ?_
  rintro e w2 ⟨A2, c2, rfl, h2, b2⟩
  go_wp2_with fail
  refine (refAdd_any _ _ _ _ l rfl (v % 256) 1 _ (by simp) (by omega) (hr1.below b2) (by omega) (by omega)).mono ?_
  rintro e w3 ⟨A3, c3, rfl, h3, b3⟩
  go_wp2_with fail
  refine (SameBytes_self _ _ _ _ _ _ _ (l ++ be (v % 256) 1) (by simp [be_length]) (by simp [be_length]) (h2.rd.below b3) h3.rd).mono ?_
  rintro e w' ⟨rfl, rfl⟩
  have b23 := b2.trans (b3.mono b2.size)
  clear h2 h3 b2 b3
  go_wp2_with fail
  refine (Add16_any _ _ _ _ l rfl (v % 65536) _ (by simp [IntKind.wrap, IntKind.bits, IntKind.signed]) (by omega) (hin.below b23) (by omega)).mono ?_
  rintro e w4 ⟨A4, c4, rfl, h4, b4⟩
  have b34 := b23.trans (b4.mono b23.size)
  go_wp2_with fail
  refine (refAdd_any _ _ _ _ l rfl (v % 65536) 2 _ (by simp) (by omega) (hr1.below b34) (by omega) (by omega)).mono ?_
  rintro e w5 ⟨A5, c5, rfl, h5, b5⟩
  have b45 := b34.trans (b5.mono b34.size)
  go_wp2_with fail
  refine (SameBytes_self _ _ _ _ _ _ _ (l ++ be (v % 65536) 2) (by simp [be_length]) (by simp [be_length]) (h4.rd.below b5) h5.rd).mono ?_
  rintro e w' ⟨rfl, rfl⟩
  clear h4 h5 b4 b5
  go_wp2_with fail
  refine (Add32_any _ _ _ _ l rfl (v % 4294967296) _ (by simp) (by omega) (hin.below b45) (by omega)).mono ?_
  rintro e w6 ⟨A6, c6, rfl, h6, b6⟩
  have b56 := b45.trans (b6.mono b45.size)
  go_wp2_with fail
  refine (refAdd_any _ _ _ _ l rfl (v % 4294967296) 4 _ (by simp) (by omega) (hr1.below b56) (by omega) (by omega)).mono ?_
  rintro e w7 ⟨A7, c7, rfl, h7, b7⟩
  have b67 := b56.trans (b7.mono b56.size)
  go_wp2_with fail
  refine (SameBytes_self _ _ _ _ _ _ _ (l ++ be (v % 4294967296) 4) (by simp [be_length]) (by simp [be_length]) (h6.rd.below b7) h7.rd).mono ?_
  rintro e w' ⟨rfl, rfl⟩
  clear h6 h7 b6 b7
  go_wp2_with fail
  refine (Add64_any _ _ _ _ l rfl v _ rfl (by omega) (hin.below b67) (by omega)).mono ?_
  rintro e w8 ⟨A8, c8, rfl, h8, b8⟩
  have b78 := b67.trans (b8.mono b67.size)
  go_wp2_with fail
  refine (refAdd_any _ _ _ _ l rfl v 8 _ rfl (by omega) (hr1.below b78) (by omega) (by omega)).mono ?_
  rintro e w9 ⟨A9, c9, rfl, h9, b9⟩
  have b89 := b78.trans (b9.mono b78.size)
  go_wp2_with fail
  refine (SameBytes_self _ _ _ _ _ _ _ (l ++ be v 8) (by simp [be_length]) (by simp [be_length]) (h8.rd.below b9) h9.rd).mono ?_
  rintro e w' ⟨rfl, rfl⟩
  clear h8 h9 b8 b9
  go_wp2_with fail
  refine (AddText_all _ _ _ _ l rfl t (by omega) (hin.below b89)).mono ?_
  rintro e w10 ⟨A10, c10, rfl, h10, b10⟩
  have b910 := b89.trans (b10.mono b89.size)
  go_wp2_with fail
  refine (refAddText_all _ _ _ _ l rfl t (by omega) (hr1.below b910)).mono ?_
  rintro e w11 ⟨A11, c11, rfl, h11, b11⟩
  have b1011 := b910.trans (b11.mono b910.size)
  go_wp2_with fail
  refine (Text_any _ _ _ _ l rfl p (by omega) (by omega) (hin.below b1011) HP.out).mono ?_
  rintro e w' ⟨rfl, rfl⟩
  go_wp2_with fail
  refine (refText_any _ _ _ _ l rfl p (by omega) (by omega) (hr1.below b1011) HP.out).mono ?_
  rintro e w' ⟨rfl, rfl⟩
  go_wp2_with fail
  refine (SameBytes_self _ _ _ _ _ _ _ (addTxt l t) rfl rfl (h10.rd.below b11) h11.rd).mono ?_
  rintro e w' ⟨rfl, rfl⟩
  go_wp2_with fail
  refine (KeptBytes_any _ _ _ _ _ _ l rfl (by omega) hcap (RdB.below HK.out b1011) (hr1.below b1011)).mono ?_
  rintro e w' ⟨rfl, rfl⟩
  go_wp2_with fail
  refine (awake01_any _).mono ?_
  rintro e w12 ⟨rfl, b12⟩
  have b1112 := b1011.trans (b12.mono b1011.size)
  go_wp2
  go_ret
  exact ⟨rfl, b1.trans (b1112.mono b1.size)⟩
end Go.Proofs.Ytohileppckhgeaa
