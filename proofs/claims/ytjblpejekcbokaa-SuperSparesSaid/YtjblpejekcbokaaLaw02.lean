/- The walks of the statements of the layer sums. -/
import Derived.Test.YtjblpejekcbokaaSums
namespace Go.Proofs.Ytjblpejekcbokaa
open Go.RowKit
set_option maxHeartbeats 1600000
set_option linter.unusedVariables false
set_option linter.unusedSimpArgs false

/-- 32 bytes, each so much above the one ahead. -/
def rowB (first step : UInt8) : List UInt8 := (List.range 32).map fun i => first + step * UInt8.ofNat i
/-- As far as they are written. -/
def rowTo (first step : UInt8) (k : Nat) : List UInt8 := (List.range 32).map fun i => if i < k then first + step * UInt8.ofNat i else 0
theorem rowTo_zero (x y : UInt8) : rowTo x y 0 = zeros 32 := by simp [rowTo, zeros]; rfl
theorem rowTo_full (x y : UInt8) : rowTo x y 32 = rowB x y := by
  unfold rowTo rowB
  refine List.map_congr_left fun i hi => ?_
  rw [if_pos (by simpa using hi)]
theorem rowTo_length (x y : UInt8) (k : Nat) : (rowTo x y k).length = 32 := by simp [rowTo]
theorem rowTo_set (x y : UInt8) (k : Nat) (hk : k < 32) : (rowTo x y k).set k (x + y * UInt8.ofNat k) = rowTo x y (k + 1) := by
  apply List.ext_getElem?
  intro i
  rw [List.getElem?_set]
  by_cases h : k = i
  · subst h
    rw [if_pos rfl, rowTo_length, if_pos hk]
    simp [rowTo, hk]
  · rw [if_neg h]
    simp only [rowTo, List.getElem?_map]
    by_cases hi : i < 32
    · rw [List.getElem?_range hi]
      have : (i < k + 1) ↔ i < k := by omega
      simp [this]
    · rw [List.getElem?_eq_none (by simpa using hi)]; rfl
/-! The chapter's examples. -/
theorem c4 : crcMore (crcMore 0 [49, 50, 51, 52]) [53, 54, 55, 56, 57] = 3808858755 := by decide +kernel
theorem c00 : crcMore 0 (rowB 0 0) = 2324772522 := by decide +kernel
theorem c255 : crcMore 0 (rowB 255 0) = 1655221059 := by decide +kernel
theorem c01 : crcMore 0 (rowB 0 1) = 1188919630 := by decide +kernel
theorem rowB_length (x y : UInt8) : (rowB x y).length = 32 := by simp [rowB]
/-! A change within four bytes. -/
/-- The bytes changed, as far as they are. -/
def burstTo (l : List UInt8) (p ch : Nat) : Nat → List UInt8
  | 0 => l
  | k + 1 => (burstTo l p ch k).set (p + k) (bat (burstTo l p ch k) (p + k) ^^^ UInt8.ofNat (ch / 2 ^ (8 * k) % 256))
theorem burstTo_length (l : List UInt8) (p ch : Nat) : ∀ k, (burstTo l p ch k).length = l.length
  | 0 => rfl
  | k + 1 => by simp [burstTo, burstTo_length l p ch k]
theorem burstTo_out (l : List UInt8) (p ch : Nat) (i : Nat) : ∀ k, (i < p ∨ p + k ≤ i) → bat (burstTo l p ch k) i = bat l i
  | 0, _ => rfl
  | k + 1, h => by
    have := burstTo_out l p ch i k (by omega)
    simp only [burstTo]
    by_cases hp : p + k < (burstTo l p ch k).length
    · rw [bat_set _ _ _ _ hp, if_neg (by omega), this]
    · rw [List.set_eq_of_length_le (by omega), this]
theorem burst_sum (l : List UInt8) (p ch k : Nat) (hk : k ≤ 4) (hp : p + k ≤ l.length) : ((crcMore 0 l : Int) == (crcMore 0 (burstTo l p ch k) : Int)) = (l == burstTo l p ch k) := by
  have h := crc_burst l (burstTo l p ch k) p k (burstTo_length _ _ _ _).symm hp hk (fun i hi => (burstTo_out l p ch i k (by omega)).symm) (fun i hi _ => (burstTo_out l p ch i k (by omega)).symm)
  by_cases e : l = burstTo l p ch k
  · rw [← e]; simp
  · have e' : ¬ (crcMore 0 l = crcMore 0 (burstTo l p ch k)) := fun he => e (h.mp he)
    rw [beq_eq_false_iff_ne.mpr e, beq_eq_false_iff_ne.mpr (by omega)]
end Go.Proofs.Ytjblpejekcbokaa
