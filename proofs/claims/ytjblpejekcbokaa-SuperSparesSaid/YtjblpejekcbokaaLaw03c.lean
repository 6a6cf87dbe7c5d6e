/- A change of what a sum is of is refused. -/
import Derived.Test.YtjblpejekcbokaaLaw03
import Derived.Test.YtjblpejekcbokaaLaw02
import Derived.Test.YtjblpejekcbokaaPick
namespace Go.Proofs.Ytjblpejekcbokaa
open Go.RowKit
set_option maxHeartbeats 3200000
set_option linter.unusedVariables false
set_option linter.unusedSimpArgs false

/-! A change within the bytes of which a sum is. -/
theorem burst_left (X Y : List UInt8) (p ch : Nat) : ∀ k, p + k ≤ X.length → burstTo (X ++ Y) p ch k = burstTo X p ch k ++ Y
  | 0, _ => rfl
  | k + 1, h => by
    have hl := burstTo_length X p ch k
    simp only [burstTo, burst_left X Y p ch k (by omega)]
    rw [bat_left _ _ _ (by omega), List.set_append_left _ _ (by omega)]
theorem burst_right (X Y : List UInt8) (p ch : Nat) : ∀ k, burstTo (X ++ Y) (X.length + p) ch k = X ++ burstTo Y p ch k
  | 0 => rfl
  | k + 1 => by
    simp only [burstTo, burst_right X Y p ch k]
    rw [bat_right _ _ (p + k) _ (by omega), List.set_append_right _ _ (by omega)]
    congr 2
    omega
theorem burst_at (l : List UInt8) (p ch : Nat) (i : Nat) : ∀ k, i < k → p + k ≤ l.length → bat (burstTo l p ch k) (p + i) = bat l (p + i) ^^^ UInt8.ofNat (ch / 2 ^ (8 * i) % 256)
  | 0, h, _ => by omega
  | k + 1, h, hp => by
    have hl := burstTo_length l p ch k
    simp only [burstTo]
    rw [bat_set _ _ _ _ (by omega)]
    by_cases e : i = k
    · subst e
      rw [if_pos rfl, burstTo_out l p ch (p + i) i (by omega)]
    · rw [if_neg (by omega)]
      exact burst_at l p ch i k (by omega) (by omega)
theorem xor_zero8 {x y : UInt8} (h : x ^^^ y = x) : y = 0 := by
  have := congrArg (x ^^^ ·) h
  simpa [← UInt8.xor_assoc] using this
theorem burst_same (l : List UInt8) (p ch : Nat) (hp : p + 4 ≤ l.length) (hc : ch < 4294967296) (h : burstTo l p ch 4 = l) : ch = 0 := by
  have key : ∀ i, i < 4 → ch / 2 ^ (8 * i) % 256 = 0 := by
    intro i hi
    have := burst_at l p ch i 4 hi hp
    rw [h] at this
    have h0 := xor_zero8 this.symm
    have h1 := congrArg UInt8.toNat h0
    rw [UInt8.toNat_ofNat'] at h1
    simpa using h1
  have k0 := key 0 (by decide); have k1 := key 1 (by decide); have k2 := key 2 (by decide); have k3 := key 3 (by decide)

  simp only [Nat.mul_zero, Nat.pow_zero, Nat.div_one, Nat.reduceMul, Nat.reducePow] at k0 k1 k2 k3
  omega
theorem be_crc_inj {a b : List UInt8} (h : be (crcMore 0 a) 4 = be (crcMore 0 b) 4) : crcMore 0 a = crcMore 0 b :=
  be_inj 4 _ _ (crcMore_lt 0 a) (crcMore_lt 0 b) h
theorem sum_of_burst {m : List UInt8} {p ch : Nat} (hp : p + 4 ≤ m.length) (hc : ch < 4294967296) (h : crcMore 0 (burstTo m p ch 4) = crcMore 0 m) : ch = 0 := by
  have := burst_sum m p ch 4 (by decide) hp
  rw [h] at this
  simp only [beq_self_eq_true] at this
  exact burst_same m p ch hp hc (beq_iff_eq.1 this.symm).symm
theorem super_burst (s : Sup) (p ch : Nat) (hp : p + 4 ≤ 40) (hc : ch < 4294967296) (h0 : ch ≠ 0) : gerrS (burstTo (supB s) p ch 4) = 30 := by
  rw [gerrS, if_neg]
  intro hi
  simp only [isS, Bool.and_eq_true, beq_iff_eq] at hi
  obtain ⟨_, h⟩ := hi
  generalize getS (burstTo (supB s) p ch 4) = s' at h
  have hl := supTo_length s 4
  have e1 : supB s = supTo s 4 ++ (be (crcMore 0 (supTo s 4)) 4 ++ zeros 4052) := by simp [supB]
  have e2 : supB s' = supTo s' 4 ++ (be (crcMore 0 (supTo s' 4)) 4 ++ zeros 4052) := by simp [supB]
  rw [e1, e2, burst_left _ _ _ _ _ (by omega)] at h
  obtain ⟨h1, h2⟩ := List.append_inj h (by rw [burstTo_length, supTo_length, supTo_length])
  obtain ⟨h3, _⟩ := List.append_inj h2 (by simp [be_length])
  have h4 := be_crc_inj h3
  rw [h1] at h4
  exact h0 (sum_of_burst (by omega) hc h4)
theorem node_burst (l : List Ext) (hl : l.length ≤ 250) (p ch : Nat) (hp : p + 4 ≤ 4088) (hc : ch < 4294967296) (h0 : ch ≠ 0) : gerrL (burstTo (nodeB l) (8 + p) ch 4) = 30 := by
  rw [gerrL, if_neg]
  intro hi
  simp only [isNode, Bool.and_eq_true, beq_iff_eq] at hi
  obtain ⟨_, h⟩ := hi
  generalize nodeX (burstTo (nodeB l) (8 + p) ch 4) = l' at h
  have hI := inB_length l hl
  have hG : (be l.length 2 ++ be 0 2 ++ be (crcMore 0 (inB l)) 4).length = 8 := by simp [be_length]
  have e1 : burstTo (nodeB l) (8 + p) ch 4 = (be l.length 2 ++ be 0 2 ++ be (crcMore 0 (inB l)) 4) ++ burstTo (inB l) p ch 4 := by
    rw [nodeB, ← hG, burst_right]
  rw [e1, nodeB] at h
  obtain ⟨h1, h2⟩ := List.append_inj h (by simp [be_length])
  obtain ⟨_, h3⟩ := List.append_inj h1 (by simp [be_length])
  have h4 := be_crc_inj h3
  rw [h2] at h4
  exact h0 (sum_of_burst (by omega) hc h4)
theorem grown_set {w w1 : World} {g : Nat} (h : w.grownBy w1 (some g)) (j : Nat) (v : Value) : w.grownBy (w1.setCell ⟨g, j, none⟩ v) (some g) :=
  ⟨h.os, h.tape, h.output, by simpa [World.setCell] using h.size, fun k hk hne => (heap_setCell_other w1 ⟨g, j, none⟩ k v (fun e => hne (by rw [e]))).trans (h.block k hk hne)⟩
set_option maxRecDepth 100000 in
theorem turned_any (w : World) (base g c N : Nat) (l : List UInt8) (hN : N = l.length) (hl : l.length ≤ 100000) (hO : OwnB base w (some ⟨g, 0, none⟩) c l) (p : Nat) (hp : p + 4 ≤ l.length) (ch : Nat) (hc : ch < 4294967296) (x : Int) (hx : x = (p : Int)) :
    Calls Try.prog 23 #[.slice (some ⟨g, 0, none⟩) N c, .int .i64 x, .int .u32 (ch : Int)] w fun e w' => e = .returned (.bool true) ∧ OwnB base w' (some ⟨g, 0, none⟩) c (burstTo l p ch 4) ∧ w.grownBy w' (some g) := by
  subst hN hx
  have hpl : (p : Int) + 4 ≤ (l.length : Int) := by omega
  go_enter Try.func23, Try.ntmps23
  go_wp2_with fail
  go_loopw [7] (fun i wr => ∃ k : Nat, k ≤ 4 ∧ i = .int .i64 k ∧ OwnB base wr (some ⟨g, 0, none⟩) c (burstTo l p ch k) ∧ w.grownBy wr (some g)) (fun i _ => 4 - (intOf i).toNat)
  case atStart => exact ⟨0, by omega, rfl, hO, World.grownBy.refl w _⟩
  case round =>
    obtain ⟨k, hk, rfl, hO', hg⟩ := hrel
    by_cases hlt : k < 4
    · have hlt2 : p + k < l.length := by omega
      obtain ⟨g', hg', hbase, hcs, hfz⟩ := hO'.at_ (by intro e; have := burstTo_length l p ch k; rw [e] at this; simp at this; omega)
      obtain rfl : g = g' := by simpa using hg'
      rw [burstTo_length] at hcs
      have hcc := hcs (p + k) hlt2
      have hf := hfz (p + k)
      have hb8 := bat_lt (burstTo l p ch k) (p + k)
      have e1 := u8_xor (a := (bat (burstTo l p ch k) (p + k)).toNat) (b := ch / 2 ^ (8 * k) % 256) hb8 (by omega)
      have E1 := hid e1
      clear e1 hcs hfz hg'
      have e2 : UInt8.toNat (bat (burstTo l p ch k) (p + k) ^^^ UInt8.ofNat (ch / 2 ^ (8 * k) % 256)) = (bat (burstTo l p ch k) (p + k)).toNat ^^^ (ch / 2 ^ (8 * k) % 256) := by
        rw [UInt8.toNat_xor, UInt8.toNat_ofNat', Nat.mod_mod_of_dvd _ (by decide)]
      have E2 := hid e2; clear e2
      have HO2 := hid hO'; clear hO'
      go_wp2
      go_roundw
      case rel =>
        refine ⟨k + 1, by omega, by go_num, ?_, grown_set hg _ _⟩
        have := HO2.out.store (p + k) (bat (burstTo l p ch k) (p + k) ^^^ UInt8.ofNat (ch / 2 ^ (8 * k) % 256))
        rw [E2.out, ← E1.out] at this
        exact this
      case measure => simp [intOf]; omega
    · obtain rfl : k = 4 := by omega
      go_wp2
      go_ret
      exact ⟨rfl, hO', hg⟩
end Go.Proofs.Ytjblpejekcbokaa
