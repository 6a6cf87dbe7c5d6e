/- The walks of the statements of the layer sums. -/
import Derived.Test.YtohileppckhgeaaSums
namespace Go.Proofs.Ytohileppckhgeaa
open Go.RowKit
set_option maxHeartbeats 1600000
set_option linter.unusedVariables false
set_option linter.unusedSimpArgs false

set_option maxRecDepth 100000 in
theorem SumsTells_any (w : World) (s : Nat) (hs : s < 4294967296) (a : Option Addr) (c : Nat) (l : List UInt8) (hl : l.length ≤ 140737488351232) (hr : RdB w a l) :
    Calls Try.prog 4 #[.int .u32 (s : Int), .slice a l.length c] w fun e w' => e = .returned (.bool true) ∧ Below w.heap.size w w' := by
  have HS := hid hs; clear hs
  by_cases hb : 20000 < l.length
  · go_enter Try.func4, Try.ntmps4
    go_wp2_with fail
    refine (awake02_any _).mono ?_
    rintro e w1 ⟨rfl, b1⟩
    go_wp2
    go_ret
    exact ⟨rfl, b1⟩
  · go_enter Try.func4, Try.ntmps4
    go_wp2_with fail
    refine (LentBytes_any _ _ _ _ l rfl (by omega) hr).mono ?_
    rintro e w1 ⟨A1, c1, rfl, h1, b1⟩
    have hr1 := hr.below b1
    have hin : RdB w1 A1 l := h1.rd.pre
    have hcap : l.length + 3 ≤ c1 := by have := h1.cap.1; simpa using this
    have HK := hid h1.rd; clear h1
    go_wp2_with fail
    refine (Crc_any _ _ _ _ l rfl (by omega) hin).mono ?_
    rintro e w2 ⟨rfl, b2⟩
    go_wp2_with fail
    refine (refMore_any _ 0 _ rfl (by omega) _ _ _ l rfl (by omega) (hr1.below b2)).mono ?_
    rintro e w' ⟨rfl, rfl⟩
    go_wp2_with fail
    refine (more_any _ s _ rfl HS.out _ _ _ l rfl (by omega) (hin.below b2)).mono ?_
    rintro e w3 ⟨rfl, b3⟩
    have b13 := b2.trans (b3.mono b2.size)
    go_wp2_with fail
    refine (refMore_any _ s _ rfl HS.out _ _ _ l rfl (by omega) (hr1.below b13)).mono ?_
    rintro e w' ⟨rfl, rfl⟩
    go_wp2_with fail
    refine (KeptBytes_any _ _ _ _ _ _ l rfl (by omega) hcap (RdB.below HK.out b13) (hr1.below b13)).mono ?_
    rintro e w' ⟨rfl, rfl⟩
    go_wp2_with fail
    refine (awake02_any _).mono ?_
    rintro e w4 ⟨rfl, b4⟩
    have b14 := b13.trans (b4.mono b13.size)
    go_wp2
    go_ret
    exact ⟨rfl, b1.trans (b14.mono b1.size)⟩

/-- 32 bytes, each so much above the one ahead. -/
def rowB (first step : UInt8) : List UInt8 := (List.range 32).map fun i => first + step * UInt8.ofNat i
/-- As far as they are written. -/
def rowTo (first step : UInt8) (k : Nat) : List UInt8 := (List.range 32).map fun i => if i < k then first + step * UInt8.ofNat i else 0
theorem rowTo_zero (x y : UInt8) : rowTo x y 0 = zeros 32 := by simp [rowTo, zeros]; rfl
theorem rowTo_full (x y : UInt8) : rowTo x y 32 = rowB x y := by
  unfold rowTo rowB
  refine List.map_congr_left fun i hi => ?_
  rw [if_pos (by simpa using hi)]
theorem rowTo_length (x y : UInt8) (k : Nat) : (rowTo x y k).length = 32 := by simp [rowTo]
theorem rowTo_set (x y : UInt8) (k : Nat) (hk : k < 32) : (rowTo x y k).set k (x + y * UInt8.ofNat k) = rowTo x y (k + 1) := by
  apply List.ext_getElem?
  intro i
  rw [List.getElem?_set]
  by_cases h : k = i
  · subst h
    rw [if_pos rfl, rowTo_length, if_pos hk]
    simp [rowTo, hk]
  · rw [if_neg h]
    simp only [rowTo, List.getElem?_map]
    by_cases hi : i < 32
    · rw [List.getElem?_range hi]
      have : (i < k + 1) ↔ i < k := by omega
      simp [this]
    · rw [List.getElem?_eq_none (by simpa using hi)]; rfl
set_option maxRecDepth 100000 in
theorem row_any (w : World) (x y : UInt8) :
    Calls Try.prog 16 #[.int .u8 (x.toNat : Int), .int .u8 (y.toNat : Int)] w fun e w' => ∃ A c', e = .returned (.slice A 32 c') ∧ RdB w' A (rowB x y) ∧ Below w.heap.size w w' := by
  have hmk := fun W => run_mkB 32 32 32 rfl rfl (by decide) W
  go_enter Try.func16, Try.ntmps16
  go_wp2
  go_loopw [6] (fun i wr => ∃ k : Nat, k ≤ 32 ∧ i = .int .i64 k ∧ OwnB w.heap.size wr (some ⟨w.heap.size, 0, none⟩) 32 (rowTo x y k) ∧ Below w.heap.size w wr) (fun i _ => 32 - (intOf i).toNat)
  case atStart =>
    exact ⟨0, by omega, rfl, by rw [rowTo_zero]; exact OwnB.made w 32 (Nat.le_refl _) (by decide), (Below.refl _ w).alloc (Nat.le_refl _) _⟩
  case round =>
    obtain ⟨k, hk, rfl, hO, hb⟩ := hrel
    by_cases hlt : k < 32
    · obtain ⟨g, hg, hbase, hcs, hfz⟩ := hO.at_ (by intro e; have := rowTo_length x y k; rw [e] at this; simp at this)
      obtain rfl : w.heap.size = g := by simpa using hg
      rw [rowTo_length x y k] at hcs
      have hc := hcs k hlt
      have hf := hfz k
      have x1 := x.toNat_lt; have y1 := y.toNat_lt
      have e1 : ((x + y * UInt8.ofNat k).toNat : Int) = ((x.toNat : Int) + (y.toNat : Int) * (k : Int)) % 256 := by
        rw [UInt8.toNat_add, UInt8.toNat_mul, UInt8.toNat_ofNat', Nat.mod_eq_of_lt (show k < 2 ^ 8 by omega)]; push_cast; simp
      have E1 := hid e1
      clear e1 hcs hfz
      go_wp2
      go_roundw
      case rel =>
        refine ⟨k + 1, by omega, by go_num, ?_, hb.setCell (Nat.le_refl _) _⟩
        rw [← rowTo_set x y k hlt, ← E1.out]
        exact hO.store k _
      case measure => simp [intOf]; omega
    · obtain rfl : k = 32 := by omega
      go_wp2
      go_ret
      exact ⟨_, _, rfl, by rw [← rowTo_full]; exact hO.rd, hb⟩
theorem row_lit (w : World) (x y : UInt8) (a b : Int) (ha : a = (x.toNat : Int)) (hb : b = (y.toNat : Int)) :
    Calls Try.prog 16 #[.int .u8 a, .int .u8 b] w fun e w' => ∃ A c', e = .returned (.slice A 32 c') ∧ RdB w' A (rowB x y) ∧ Below w.heap.size w w' := by
  subst ha hb
  exact row_any w x y

/-! The chapter's examples. -/
theorem c4 : crcMore (crcMore 0 [49, 50, 51, 52]) [53, 54, 55, 56, 57] = 3808858755 := by decide +kernel
theorem c00 : crcMore 0 (rowB 0 0) = 2324772522 := by decide +kernel
theorem c255 : crcMore 0 (rowB 255 0) = 1655221059 := by decide +kernel
theorem c01 : crcMore 0 (rowB 0 1) = 1188919630 := by decide +kernel
theorem rowB_length (x y : UInt8) : (rowB x y).length = 32 := by simp [rowB]
set_option maxRecDepth 100000 in
theorem SumsNumbers_any (w : World) : Calls Try.prog 3 #[] w fun e w' => e = .returned (.bool true) ∧ Below w.heap.size w w' := by
  have kc := fun (w : World) (C : Array Value) (n c : Nat) => conv_const w C n c _ rfl
  go_enter Try.func3, Try.ntmps3
  go_wp2_with fail
  refine (Crc_any _ none _ _ [] rfl (by decide) (RdB.nil _ _)).mono ?_
  rintro e w1 ⟨rfl, b1⟩
  go_wp2_with fail
  refine (Crc_any _ _ _ _ [49, 50, 51, 52] rfl (by decide) (RdB.marked w1 _ _ _ _ rfl (by simp))).mono ?_
  rintro e w2 ⟨rfl, bb⟩
  have b2 := (b1.alloc b1.size _).trans (bb.mono (by have := b1.size; simp; omega)); clear bb
  go_wp2_with fail
  refine (more_any _ (crcMore 0 [49, 50, 51, 52]) _ rfl (crcMore_lt _ _) _ _ _ [53, 54, 55, 56, 57] rfl (by decide) (RdB.marked w2 _ _ _ _ rfl (by simp))).mono ?_
  rw [c4]
  rintro e w3 ⟨rfl, bb⟩
  have b3 := (b2.alloc b2.size _).trans (bb.mono (by have := b2.size; simp; omega)); clear bb
  go_wp2_with fail
  refine (row_lit _ 0 0 0 0 rfl rfl).mono ?_
  rintro e w4 ⟨A3, k3, rfl, r3, bb⟩
  have b4 := b3.trans (bb.mono b3.size); clear bb
  go_wp2_with fail
  refine (Crc_any _ _ _ _ (rowB 0 0) (rowB_length _ _).symm (by rw [rowB_length]; decide) r3).mono ?_
  rw [c00]
  rintro e w5 ⟨rfl, bb⟩
  have b5 := b4.trans (bb.mono b4.size); clear bb r3
  go_wp2_with fail
  refine (row_lit _ 255 0 255 0 rfl rfl).mono ?_
  rintro e w6 ⟨A5, k5, rfl, r5, bb⟩
  have b6 := b5.trans (bb.mono b5.size); clear bb
  go_wp2_with fail
  refine (Crc_any _ _ _ _ (rowB 255 0) (rowB_length _ _).symm (by rw [rowB_length]; decide) r5).mono ?_
  rw [c255]
  rintro e w7 ⟨rfl, bb⟩
  have b7 := b6.trans (bb.mono b6.size); clear bb r5
  go_wp2_with fail
  refine (row_lit _ 0 1 0 1 rfl rfl).mono ?_
  rintro e w8 ⟨A7, k7, rfl, r7, bb⟩
  have b8 := b7.trans (bb.mono b7.size); clear bb
  go_wp2_with fail
  refine (Crc_any _ _ _ _ (rowB 0 1) (rowB_length _ _).symm (by rw [rowB_length]; decide) r7).mono ?_
  rw [c01]
  rintro e w9 ⟨rfl, bb⟩
  have b9 := b8.trans (bb.mono b8.size); clear bb r7
  go_wp2_with fail
  refine (awake02_any _).mono ?_
  rintro e w10 ⟨rfl, bb⟩
  have b10 := b9.trans (bb.mono b9.size)
  go_wp2
  go_ret
  exact ⟨rfl, b10⟩

/-! A change within four bytes. -/
/-- The bytes changed, as far as they are. -/
def burstTo (l : List UInt8) (p ch : Nat) : Nat → List UInt8
  | 0 => l
  | k + 1 => (burstTo l p ch k).set (p + k) (bat (burstTo l p ch k) (p + k) ^^^ UInt8.ofNat (ch / 2 ^ (8 * k) % 256))
theorem burstTo_length (l : List UInt8) (p ch : Nat) : ∀ k, (burstTo l p ch k).length = l.length
  | 0 => rfl
  | k + 1 => by simp [burstTo, burstTo_length l p ch k]
theorem burstTo_out (l : List UInt8) (p ch : Nat) (i : Nat) : ∀ k, (i < p ∨ p + k ≤ i) → bat (burstTo l p ch k) i = bat l i
  | 0, _ => rfl
  | k + 1, h => by
    have := burstTo_out l p ch i k (by omega)
    simp only [burstTo]
    by_cases hp : p + k < (burstTo l p ch k).length
    · rw [bat_set _ _ _ _ hp, if_neg (by omega), this]
    · rw [List.set_eq_of_length_le (by omega), this]
theorem burst_sum (l : List UInt8) (p ch k : Nat) (hk : k ≤ 4) (hp : p + k ≤ l.length) : ((crcMore 0 l : Int) == (crcMore 0 (burstTo l p ch k) : Int)) = (l == burstTo l p ch k) := by
  have h := crc_burst l (burstTo l p ch k) p k (burstTo_length _ _ _ _).symm hp hk (fun i hi => (burstTo_out l p ch i k (by omega)).symm) (fun i hi _ => (burstTo_out l p ch i k (by omega)).symm)
  by_cases e : l = burstTo l p ch k
  · rw [← e]; simp
  · have e' : ¬ (crcMore 0 l = crcMore 0 (burstTo l p ch k)) := fun he => e (h.mp he)
    rw [beq_eq_false_iff_ne.mpr e, beq_eq_false_iff_ne.mpr (by omega)]
set_option maxRecDepth 100000 in
theorem SumsBursts_any (w : World) (a : Option Addr) (c : Nat) (l : List UInt8) (hl : l.length ≤ 140737488351232) (hr : RdB w a l) (x : Int) (hx : -9223372036854775808 ≤ x ∧ x ≤ 9223372036854775807) (ch : Nat) (hch : ch < 4294967296) :
    Calls Try.prog 5 #[.slice a l.length c, .int .i64 x, .int .u32 (ch : Int)] w fun e w' => e = .returned (.bool true) ∧ Below w.heap.size w w' := by
  have HX := hid hx; clear hx
  by_cases hb : 20000 < l.length ∨ l.length = 0
  · by_cases hb2 : 20000 < l.length
    · go_enter Try.func5, Try.ntmps5
      go_wp2_with fail
      refine (awake02_any _).mono ?_
      rintro e w1 ⟨rfl, b1⟩
      go_wp2
      go_ret
      exact ⟨rfl, b1⟩
    · have h0 : l.length = 0 := by omega
      go_enter Try.func5, Try.ntmps5
      go_wp2_with fail
      refine (awake02_any _).mono ?_
      rintro e w1 ⟨rfl, b1⟩
      go_wp2
      go_ret
      exact ⟨rfl, b1⟩
  · have h0 : 0 < l.length := by omega
    have h2 : l.length ≤ 20000 := by omega
    have e0 : (decide ((20000 : Int) < (l.length : Int)) || ((l.length : Int) == 0)) = false := by
      rw [Bool.or_eq_false_iff, decide_eq_false_iff_not, beq_eq_false_iff_ne]; omega
    clear hb
    go_enter Try.func5, Try.ntmps5
    go_wp2_with fail
    refine (Pick_any _ x l.length HX.out h0 (by omega)).mono ?_
    rintro e w' ⟨⟨p, hp, rfl⟩, rfl⟩
    go_wp2_with fail
    refine (CopyBytes_any _ _ _ _ l rfl (by omega) hr).mono ?_
    rintro e w1 ⟨A1, c1, rfl, h1, b1⟩
    obtain ⟨g, rfl, hg, _, _⟩ := h1.at_ (by intro e; simp [e] at h0)
    have hr1 := hr.below b1
    go_wp2_with fail
    go_loopw [8] (fun i wr => ∃ k : Nat, k ≤ 4 ∧ p + k ≤ l.length ∧ i = .int .i64 k ∧ OwnB w.heap.size wr (some ⟨g, 0, none⟩) c1 (burstTo l p ch k) ∧ Below w.heap.size w wr) (fun i _ => 4 - (intOf i).toNat)
    case atStart => exact ⟨0, by omega, by omega, rfl, h1, b1⟩
    case round =>
      obtain ⟨k, hk, hpk, rfl, hO, hbl⟩ := hrel
      by_cases hlt : k < 4
      · by_cases hlt2 : p + k < l.length
        · obtain ⟨g', hg', hbase, hcs, hfz⟩ := hO.at_ (by intro e; have := burstTo_length l p ch k; rw [e] at this; simp at this; omega)
          obtain rfl : g = g' := by simpa using hg'
          rw [burstTo_length] at hcs
          have hc := hcs (p + k) hlt2
          have hf := hfz (p + k)
          have hb8 := bat_lt (burstTo l p ch k) (p + k)
          have e1 := u8_xor (a := (bat (burstTo l p ch k) (p + k)).toNat) (b := ch / 2 ^ (8 * k) % 256) hb8 (by omega)
          have E1 := hid e1
          clear e1 hcs hfz
          have e2 : UInt8.toNat (bat (burstTo l p ch k) (p + k) ^^^ UInt8.ofNat (ch / 2 ^ (8 * k) % 256)) = (bat (burstTo l p ch k) (p + k)).toNat ^^^ (ch / 2 ^ (8 * k) % 256) := by
            rw [UInt8.toNat_xor, UInt8.toNat_ofNat', Nat.mod_mod_of_dvd _ (by decide)]
          have E2 := hid e2; clear e2
          go_wp2
          go_roundw
          case rel =>
            refine ⟨k + 1, by omega, by omega, by go_num, ?_, hbl.setCell hg _⟩
            have := hO.store (p + k) (bat (burstTo l p ch k) (p + k) ^^^ UInt8.ofNat (ch / 2 ^ (8 * k) % 256))
            rw [E2.out, ← E1.out] at this
            exact this
          case measure => simp [intOf]; omega
        · have hle : l.length ≤ p + k := by omega
          have hs := burst_sum l p ch k hk hpk
          have hOr := hO.rd
          have hO2 := hr.below hbl
          have L4 := hid (burstTo_length l p ch k)
          clear hO
          obtain ⟨m, hm⟩ : ∃ m, m = burstTo l p ch k := ⟨_, rfl⟩
          rw [← hm] at hs hOr L4
          clear hm
          have S := hid hs; clear hs
          go_wp2_with fail
          refine (Crc_any _ _ _ _ l rfl (by omega) hO2).mono ?_
          rintro e w2 ⟨rfl, b2⟩
          go_wp2_with fail
          refine (Crc_any _ _ _ _ m L4.out.symm (by rw [L4.out]; omega) (hOr.below b2)).mono ?_
          rintro e w3 ⟨rfl, b3⟩
          have b23 := b2.trans (b3.mono b2.size)
          go_wp2_with fail
          refine (SameBytes_any _ _ _ _ _ _ _ l m rfl L4.out.symm (hO2.below b23) (hOr.below b23)).mono ?_
          rintro e w' ⟨rfl, rfl⟩
          rw [S.out]
          go_wp2_with fail
          refine (awake02_any _).mono ?_
          rintro e w4 ⟨rfl, b4⟩
          have b24 := b23.trans (b4.mono b23.size)
          go_wp2
          go_ret
          exact ⟨rfl, hbl.trans (b24.mono hbl.size)⟩
      · have hle : 4 ≤ k := by omega
        have hs := burst_sum l p ch k hk hpk
        have hOr := hO.rd
        have hO2 := hr.below hbl
        have L4 := hid (burstTo_length l p ch k)
        clear hO
        obtain ⟨m, hm⟩ : ∃ m, m = burstTo l p ch k := ⟨_, rfl⟩
        rw [← hm] at hs hOr L4
        clear hm
        have S := hid hs; clear hs
        go_wp2_with fail
        refine (Crc_any _ _ _ _ l rfl (by omega) hO2).mono ?_
        rintro e w2 ⟨rfl, b2⟩
        go_wp2_with fail
        refine (Crc_any _ _ _ _ m L4.out.symm (by rw [L4.out]; omega) (hOr.below b2)).mono ?_
        rintro e w3 ⟨rfl, b3⟩
        have b23 := b2.trans (b3.mono b2.size)
        go_wp2_with fail
        refine (SameBytes_any _ _ _ _ _ _ _ l m rfl L4.out.symm (hO2.below b23) (hOr.below b23)).mono ?_
        rintro e w' ⟨rfl, rfl⟩
        rw [S.out]
        go_wp2_with fail
        refine (awake02_any _).mono ?_
        rintro e w4 ⟨rfl, b4⟩
        have b24 := b23.trans (b4.mono b23.size)
        go_wp2
        go_ret
        exact ⟨rfl, hbl.trans (b24.mono hbl.size)⟩
end Go.Proofs.Ytohileppckhgeaa
