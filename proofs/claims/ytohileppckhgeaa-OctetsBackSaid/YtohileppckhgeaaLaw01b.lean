/- The walks of the statements OctetsOrder and OctetsBack. -/
import Derived.Test.YtohileppckhgeaaOct3
import Derived.Test.YtohileppckhgeaaLaw01
namespace Go.Proofs.Ytohileppckhgeaa
open Go.RowKit
set_option maxHeartbeats 1600000
set_option linter.unusedVariables false
set_option linter.unusedSimpArgs false

theorem Add64_nil (w : World) (v : Nat) (hv : v < 18446744073709551616) :
    Calls Try.prog 31 #[.slice none 0 0, .int .u64 (v : Int)] w fun e w' =>
      ∃ A c', e = .returned (.slice A 8 c') ∧ (∀ W, Below w'.heap.size w' W → (convert 25 9 (.slice A 8 c')).run Try.prog W = .ok (.string (strB (be v 8))) W) ∧ Below w.heap.size w w' := by
  refine (Add64_any w none 0 _ [] rfl v v rfl (by decide) (RdB.nil _ _) hv).mono ?_
  rintro e w' ⟨A, c', rfl, h1, h2⟩
  refine ⟨A, c', rfl, fun W hW => ?_, h2⟩
  have := run_strB c' (h1.rd.below hW)
  simpa [be_length] using this
set_option maxRecDepth 100000 in
theorem OctetsOrder_any (w : World) (x y : Nat) (hx : x < 18446744073709551616) (hy : y < 18446744073709551616) :
    Calls Try.prog 10 #[.int .u64 (x : Int), .int .u64 (y : Int)] w fun e w' => e = .returned (.bool true) ∧ Below w.heap.size w w' := by
  have HX := hid hx; have HY := hid hy; clear hx hy
  go_enter Try.func10, Try.ntmps10
  go_wp2_with fail
  go_region_with (first
    | (go_at_call_of 31 (x); refine (Add64_nil _ x HX.out).mono ?_; rintro e w1 ⟨A1, c1, rfl, h1, b1⟩; have h10 := h1 w1 (Below.refl _ _); have H1 := hid h1; clear h1)
    | (go_at_call_of 31 (y); refine (Add64_nil _ y HY.out).mono ?_; rintro e w2 ⟨A2, c2, rfl, h2, b2⟩; have h20 := h2 w2 (Below.refl _ _); have h12 := H1.out w2 b2; clear h2))
  all_goals
    have bw : Below w.heap.size w w2 := (Below.drew (Below.refl _ w)).trans (b1.trans (b2.mono b1.size))
    have t1 := strB_toList (be x 8)
    have t2 := strB_toList (be y 8)
    have f1 := be_less x y HX.out HY.out
    have f2 := be_same x y HX.out HY.out
    have z1 : (strB (be x 8)).size = 8 := by rw [strB_size, be_length]
    go_wp2_with (go_at_call 32; refine (awake01_any _).mono ?_; rintro e w3 ⟨rfl, b3⟩)
    go_ret
    exact ⟨rfl, bw.trans (b3.mono bw.size)⟩

set_option maxRecDepth 100000 in
theorem OctetsBack_long (w : World) (a : Option Addr) (c n : Nat) (p q : ByteArray) (v : Nat) (h : ¬ (p.size ≤ 65535 ∧ q.size ≤ 65535)) :
    Calls Try.prog 13 #[.slice a n c, .string p, .string q, .int .u64 (v : Int)] w fun e w' => e = .returned (.bool true) ∧ Below w.heap.size w w' := by
  by_cases h1 : 65535 < p.size
  · go_enter Try.func13, Try.ntmps13
    go_wp2_with (go_at_call 32; refine (awake01_any _).mono ?_; rintro e w3 ⟨rfl, b3⟩)
    go_ret
    exact ⟨rfl, b3⟩
  · have h2 : 65535 < q.size := by omega
    go_enter Try.func13, Try.ntmps13
    go_wp2_with (go_at_call 32; refine (awake01_any _).mono ?_; rintro e w3 ⟨rfl, b3⟩)
    go_ret
    exact ⟨rfl, b3⟩

set_option maxRecDepth 100000 in
theorem OctetsBack_any (w : World) (a : Option Addr) (c : Nat) (l : List UInt8) (p q : ByteArray) (v : Nat) (hl : l.length ≤ 140737488351232) (hr : RdB w a l) (hp : p.size ≤ 65535) (hq : q.size ≤ 65535) (hv : v < 18446744073709551616) :
    Calls Try.prog 13 #[.slice a l.length c, .string p, .string q, .int .u64 (v : Int)] w fun e w' => e = .returned (.bool true) ∧ Below w.heap.size w w' := by
  obtain ⟨v1, hv1⟩ : ∃ x, x = v / 2048 % 256 := ⟨_, rfl⟩
  obtain ⟨v2, hv2⟩ : ∃ x, x = v / 128 % 65536 := ⟨_, rfl⟩
  obtain ⟨v3, hv3⟩ : ∃ x, x = v / 8 % 4294967296 := ⟨_, rfl⟩
  have e1 : (v : Int) / 2048 % 256 = (v1 : Int) := by omega
  have e2 : IntKind.u16.wrap ((v : Int) / 128) = (v2 : Int) := by
    rw [show IntKind.u16.wrap ((v : Int) / 128) = (v : Int) / 128 % 65536 by simp [IntKind.wrap, IntKind.bits, IntKind.signed]]; omega
  have e3 : (v : Int) / 8 % 4294967296 = (v3 : Int) := by omega
  have g1 : v1 < 256 := by omega
  have g2 : v2 < 65536 := by omega
  have g3 : v3 < 4294967296 := by omega
  clear hv1 hv2 hv3
  have HV := hid hv; clear hv
  go_enter Try.func13, Try.ntmps13
  obtain ⟨L0, hL0⟩ : ∃ L, L = l := ⟨_, rfl⟩
  have n0 : L0.length = l.length := by rw [hL0]
  have N0 := hid n0; have E0 := hid hL0; clear n0 hL0
  have r0 : RdB w a L0 := by rw [E0.out]; exact hr
  have b0 := Below.refl w.heap.size w
  go_wp2_with fail
  refine (Add8_any _ _ _ _ L0 (by rw [N0.out]) v1 _ rfl (by rw [N0.out]; omega) r0 g1).mono ?_
  rintro e w1 ⟨A1, c1, rfl, h1, bb⟩
  have b1 := b0.trans (bb.mono b0.size); clear bb b0 r0
  obtain ⟨L1, hL⟩ : ∃ L, L = L0 ++ be v1 1 := ⟨_, rfl⟩
  rw [← hL] at h1
  have r1 := h1.rd
  have nn : L1.length = l.length + 1 := by rw [hL, List.length_append, N0.out, be_length]
  have N1 := hid nn; have E1 := hid hL; clear nn hL h1
  go_wp2_with fail
  refine (Add16_any _ _ _ _ L1 (by rw [N1.out]) v2 _ rfl (by rw [N1.out]; omega) r1 g2).mono ?_
  rintro e w2 ⟨A2, c2, rfl, h2, bb⟩
  have b2 := b1.trans (bb.mono b1.size); clear bb b1 r1
  obtain ⟨L2, hL⟩ : ∃ L, L = L1 ++ be v2 2 := ⟨_, rfl⟩
  rw [← hL] at h2
  have r2 := h2.rd
  have nn : L2.length = l.length + 1 + 2 := by rw [hL, List.length_append, N1.out, be_length]
  have N2 := hid nn; have E2 := hid hL; clear nn hL h2
  go_wp2_with fail
  refine (Add32_any _ _ _ _ L2 (by rw [N2.out]) v3 _ rfl (by rw [N2.out]; omega) r2 g3).mono ?_
  rintro e w3 ⟨A3, c3, rfl, h3, bb⟩
  have b3 := b2.trans (bb.mono b2.size); clear bb b2 r2
  obtain ⟨L3, hL⟩ : ∃ L, L = L2 ++ be v3 4 := ⟨_, rfl⟩
  rw [← hL] at h3
  have r3 := h3.rd
  have nn : L3.length = l.length + 1 + 2 + 4 := by rw [hL, List.length_append, N2.out, be_length]
  have N3 := hid nn; have E3 := hid hL; clear nn hL h3
  go_wp2_with fail
  refine (Add64_any _ _ _ _ L3 (by rw [N3.out]) v _ rfl (by rw [N3.out]; omega) r3 HV.out).mono ?_
  rintro e w4 ⟨A4, c4, rfl, h4, bb⟩
  have b4 := b3.trans (bb.mono b3.size); clear bb b3 r3
  obtain ⟨L4, hL⟩ : ∃ L, L = L3 ++ be v 8 := ⟨_, rfl⟩
  rw [← hL] at h4
  have r4 := h4.rd
  have nn : L4.length = l.length + 1 + 2 + 4 + 8 := by rw [hL, List.length_append, N3.out, be_length]
  have N4 := hid nn; have E4 := hid hL; clear nn hL h4
  go_wp2_with fail
  refine (AddText_any _ _ _ _ L4 (by rw [N4.out]) p (by rw [N4.out]; omega) r4 hp).mono ?_
  rintro e w5 ⟨A5, c5, rfl, h5, bb⟩
  have b5 := b4.trans (bb.mono b4.size); clear bb b4 r4
  obtain ⟨L5, hL⟩ : ∃ L, L = L4 ++ be p.size 2 ++ p.data.toList := ⟨_, rfl⟩
  rw [← hL] at h5
  have r5 := h5.rd
  have cc5 := h5.cap
  have nn : L5.length = l.length + 1 + 2 + 4 + 8 + 2 + p.size := by rw [hL, List.length_append, List.length_append, N4.out, be_length, data_length]
  have N5 := hid nn; have E5 := hid hL; have C5 := hid cc5; clear nn hL h5 cc5
  go_wp2_with fail
  refine (AddText_any _ _ _ _ L5 (by rw [N5.out]) q (by rw [N5.out]; omega) r5 hq).mono ?_
  rintro e w6 ⟨A6, c6, rfl, h6, bb⟩
  have b6 := b5.trans (bb.mono b5.size); clear bb b5 r5
  obtain ⟨L6, hL⟩ : ∃ L, L = L5 ++ be q.size 2 ++ q.data.toList := ⟨_, rfl⟩
  rw [← hL] at h6
  have r6 := h6.rd
  have cc6 := h6.cap
  have nn : L6.length = l.length + 1 + 2 + 4 + 8 + 2 + p.size + 2 + q.size := by rw [hL, List.length_append, List.length_append, N5.out, be_length, data_length]
  have N6 := hid nn; have E6 := hid hL; have C6 := hid cc6; clear nn hL h6 cc6
  have hfull : L6 = l ++ (be v1 1 ++ (be v2 2 ++ (be v3 4 ++ (be v 8 ++ (be p.size 2 ++ (p.data.toList ++ (be q.size 2 ++ q.data.toList))))))) := by
    rw [E6.out, E5.out, E4.out, E3.out, E2.out, E1.out, E0.out]; simp only [List.append_assoc]
  obtain ⟨k1, m1⟩ := numV_at l _ L6 v1 1 (l.length : Int) rfl hfull
  obtain ⟨k2, m2⟩ := numV_at (l ++ be v1 1) _ L6 v2 2 ((l.length : Int) + 1) (by simp [be_length]) (by rw [hfull, List.append_assoc])
  obtain ⟨k3, m3⟩ := numV_at (l ++ be v1 1 ++ be v2 2) (be v 8 ++ (be p.size 2 ++ (p.data.toList ++ (be q.size 2 ++ q.data.toList)))) L6 v3 4 ((l.length : Int) + 3) (by simp [be_length] <;> omega) (by rw [hfull]; simp only [List.append_assoc])
  obtain ⟨k4, m4⟩ := numV_at (l ++ be v1 1 ++ be v2 2 ++ be v3 4) (be p.size 2 ++ (p.data.toList ++ (be q.size 2 ++ q.data.toList))) L6 v 8 ((l.length : Int) + 7) (by simp [be_length] <;> omega) (by rw [hfull]; simp only [List.append_assoc])
  obtain ⟨k5, m5, o5⟩ := txt_at (l ++ be v1 1 ++ be v2 2 ++ be v3 4 ++ be v 8) (be q.size 2 ++ q.data.toList) L6 p.data.toList ((l.length : Int) + 15) (by simp [be_length] <;> omega) (by rw [hfull, data_length]; simp only [List.append_assoc]) (by rw [data_length]; exact hp)
  obtain ⟨k6, m6, o6⟩ := txt_at (l ++ be v1 1 ++ be v2 2 ++ be v3 4 ++ be v 8 ++ be p.size 2 ++ p.data.toList) [] L6 q.data.toList ((l.length : Int) + 15 + 2 + p.size) (by simp [be_length, data_length] <;> omega) (by rw [hfull, data_length]; simp only [List.append_assoc, List.append_nil]) (by rw [data_length]; exact hq)
  rw [show v1 % 256 ^ 1 = v1 by omega] at m1
  rw [show v2 % 256 ^ 2 = v2 by omega] at m2
  rw [show v3 % 256 ^ 4 = v3 by omega] at m3
  rw [show v % 256 ^ 8 = v by have := HV.out; omega] at m4
  rw [data_length] at o5 o6
  have K1 := hid (And.intro k1 m1); have K2 := hid (And.intro k2 m2); have K3 := hid (And.intro k3 m3); have K4 := hid (And.intro k4 m4)
  have K5 := hid (And.intro k5 (And.intro m5 o5)); have K6 := hid (And.intro k6 (And.intro m6 o6))
  clear k1 m1 k2 m2 k3 m3 k4 m4 k5 m5 o5 k6 m6 o6
  have pre : RdB w6 A6 l := by rw [hfull] at r6; exact r6.pre
  clear hfull
  have hcap : l.length ≤ c6 := by have := C6.out.1; rw [N6.out] at this; omega
  have hr6 := hr.below b6
  clear E0 E1 E2 E3 E4 E5 E6
  go_wp2_with fail
  refine (U8_any _ _ _ _ L6 (by rw [N6.out]) _ (by rw [N6.out]; omega) r6 (by omega)).mono ?_
  rw [K1.out.1, K1.out.2]; rintro e w' ⟨rfl, rfl⟩
  go_wp2_with fail
  refine (U16_any _ _ _ _ L6 (by rw [N6.out]) _ (by rw [N6.out]; omega) r6 (by omega)).mono ?_
  rw [K2.out.1, K2.out.2]; rintro e w' ⟨rfl, rfl⟩
  go_wp2_with fail
  refine (U32_any _ _ _ _ L6 (by rw [N6.out]) _ (by rw [N6.out]; omega) r6 (by omega)).mono ?_
  rw [K3.out.1, K3.out.2]; rintro e w' ⟨rfl, rfl⟩
  go_wp2_with fail
  refine (U64_any _ _ _ _ L6 (by rw [N6.out]) _ (by rw [N6.out]; omega) r6 (by omega)).mono ?_
  rw [K4.out.1, K4.out.2]; rintro e w' ⟨rfl, rfl⟩
  go_wp2_with fail
  refine (Text_any _ _ _ _ L6 (by rw [N6.out]) _ (by rw [N6.out]; omega) C6.out.1 r6 (by omega)).mono ?_
  rw [K5.out.1, K5.out.2.1, K5.out.2.2, strB_data]; rintro e w' ⟨rfl, rfl⟩
  go_wp2_with fail
  refine (Text_any _ _ _ _ L6 (by rw [N6.out]) _ (by rw [N6.out]; omega) C6.out.1 r6 (by omega)).mono ?_
  rw [K6.out.1, K6.out.2.1, K6.out.2.2, strB_data]; rintro e w' ⟨rfl, rfl⟩
  go_wp2_with fail
  refine (SameBytes_self _ _ _ _ _ _ _ l rfl rfl pre hr6).mono ?_
  rintro e w' ⟨rfl, rfl⟩
  go_wp2_with fail
  refine (awake01_any _).mono ?_
  rintro e w7 ⟨rfl, b7⟩
  go_wp2
  go_ret
  exact ⟨rfl, b6.trans (b7.mono b6.size)⟩
theorem OctetsBack_all (w : World) (a : Option Addr) (c : Nat) (l : List UInt8) (p q : ByteArray) (v : Nat) (hl : l.length ≤ 140737488351232) (hr : RdB w a l) (hv : v < 18446744073709551616) :
    Calls Try.prog 13 #[.slice a l.length c, .string p, .string q, .int .u64 (v : Int)] w fun e w' => e = .returned (.bool true) ∧ Below w.heap.size w w' := by
  by_cases h : p.size ≤ 65535 ∧ q.size ≤ 65535
  · exact OctetsBack_any w a c l p q v hl hr h.1 h.2 hv
  · exact OctetsBack_long w a c l.length p q v h
end Go.Proofs.Ytohileppckhgeaa
