/- Plain laws of super: an inode that is put is got back. -/
import Derived.Test.YtjblpejekcbokaaBack3
import Derived.Test.YtjblpejekcbokaaInode4
namespace Go.Proofs.Ytjblpejekcbokaa
open Go.RowKit
set_option linter.unusedVariables false
set_option linter.unusedSimpArgs false

theorem readInd_zeros : readInd (zeros 64) = ⟨0, 0, 0, 0, []⟩ := by decide +kernel
theorem readInd_indB (n : Ind) (h : okInd n = true) : readInd (indB n) = n := by
  obtain ⟨k, ln, sz, nd, l⟩ := n
  by_cases hk : k = 0
  · subst hk
    rw [okInd_free rfl, decide_eq_true_eq] at h
    obtain ⟨rfl, rfl, rfl, h4⟩ := h
    obtain rfl := List.eq_nil_of_length_eq_zero h4
    rw [show indB ⟨0, 0, 0, 0, []⟩ = zeros 64 from if_pos rfl]
    exact readInd_zeros
  · rw [okInd_kind hk, Bool.and_eq_true, decide_eq_true_eq] at h
    obtain ⟨⟨d1, ⟨d2, d3⟩, ⟨d4, d5⟩, ⟨d6, d7⟩, d8⟩, d9⟩ := h
    have hb : badTo l l.length = false := by simpa [rightX] using d9
    obtain ⟨ln, rfl⟩ := Int.eq_ofNat_of_zero_le d2
    obtain ⟨sz, rfl⟩ := Int.eq_ofNat_of_zero_le d4
    obtain ⟨nd, rfl⟩ := Int.eq_ofNat_of_zero_le d6
    have p2 : (256 : Nat) ^ 2 = 65536 := by decide
    have p4 : (256 : Nat) ^ 4 = 4294967296 := by decide
    have hF : (indF ⟨k, ln, sz, nd, l⟩).length = 26 := indF_length d8
    have hB : indB ⟨k, ln, sz, nd, l⟩ = [byteOf k, byteOf l.length] ++ (be ln 2 ++ (be sz 4 ++ (xsTo l l.length ++ (zeros (18 - 6 * l.length) ++ (be nd 2 ++ (zeros 32 ++ be (crcMore 0 (indM ⟨k, ln, sz, nd, l⟩)) 4)))))) := by
      rw [indB, if_neg hk]
      conv => lhs; arg 1; rw [indM, indF]
      simp [List.append_assoc]
    have hB2 : indB ⟨k, ln, sz, nd, l⟩ = indF ⟨k, ln, sz, nd, l⟩ ++ (be nd 2 ++ (zeros 32 ++ be (crcMore 0 (indM ⟨k, ln, sz, nd, l⟩)) 4)) := by
      rw [indB, if_neg hk]
      conv => lhs; arg 1; rw [indM]
      simp [List.append_assoc]
    have e0 : (bat (indB ⟨k, ln, sz, nd, l⟩) 0).toNat = k := by rw [hB]; exact byteOf_lt (by omega)
    have e1 : (bat (indB ⟨k, ln, sz, nd, l⟩) 1).toNat = l.length := by rw [hB]; exact byteOf_lt (by omega)
    have e2 : numV (indB ⟨k, ln, sz, nd, l⟩) 2 2 = ln := numV_lt_at [byteOf k, byteOf l.length] _ _ ln 2 _ rfl hB (by omega)
    have e3 : numV (indB ⟨k, ln, sz, nd, l⟩) 4 4 = sz := numV_lt_at ([byteOf k, byteOf l.length] ++ be ln 2) _ _ sz 4 _ (by simp [be_length]) (by rw [hB]; simp only [List.append_assoc]; rfl) (by omega)
    have e4 : numV (indB ⟨k, ln, sz, nd, l⟩) 26 2 = nd := numV_lt_at (indF ⟨k, ln, sz, nd, l⟩) _ _ nd 2 _ (by rw [hF]; rfl) hB2 (by omega)
    have e5 : xsAtB (indB ⟨k, ln, sz, nd, l⟩) 8 l.length = l := xsAtB_xsTo ([byteOf k, byteOf l.length] ++ be ln 2 ++ be sz 4) _ _ l 8 _ (by simp [be_length]) rfl (by rw [hB]; simp only [List.append_assoc]; rfl) hb
    rw [readInd, e0, e1, e2, e3, e4, Nat.min_eq_left d8, e5]
theorem got_indB (n : Ind) (h : okInd n = true) : gotInd (indB n) = n ∧ gerrInd (indB n) = 0 := by
  have : isInd (indB n) = true := by simp [isInd, readInd_indB n h, h]
  simp [gotInd, gerrInd, this, readInd_indB n h]
theorem ind_again (b : List UInt8) (h : gerrInd b = 0) : okInd (gotInd b) = true ∧ putInd (gotInd b) = b := by
  have hi : isInd b = true := by
    by_cases hi : isInd b = true
    · exact hi
    · rw [gerrInd, if_neg hi] at h; cases h
  rw [gotInd, if_pos hi]
  simp only [isInd, Bool.and_eq_true, beq_iff_eq] at hi
  exact ⟨hi.1, by rw [putInd, if_pos hi.1, hi.2]⟩
theorem gerrS_or (b : List UInt8) : gerrS b = 0 ∨ gerrS b = 30 := by unfold gerrS; split <;> simp
theorem gerrL_or (b : List UInt8) : gerrL b = 0 ∨ gerrL b = 30 := by unfold gerrL; split <;> simp
theorem gerrInd_or (b : List UInt8) : gerrInd b = 0 ∨ gerrInd b = 30 := by unfold gerrInd; split <;> simp
end Go.Proofs.Ytjblpejekcbokaa
