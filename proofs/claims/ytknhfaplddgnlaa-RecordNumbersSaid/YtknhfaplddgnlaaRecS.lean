/- The document's read: what it says (plain). -/
import Derived.Test.YtknhfaplddgnlaaRecR
namespace Go.Proofs.Ytknhfaplddgnlaa
open Go.RowKit
set_option maxHeartbeats 1000000
set_option maxRecDepth 100000
set_option linter.unusedVariables false
set_option linter.unusedSimpArgs false

theorem numTo_add (l : List UInt8) (p a : Nat) : ∀ b, numTo l p (a + b) = numTo l p a * 256 ^ b + numTo l (p + a) b
  | 0 => by simp [numTo]
  | b + 1 => by
    have := numTo_add l p a b
    rw [← Nat.add_assoc, numTo, this, numTo, Nat.pow_succ, Nat.add_assoc p a b]
    rw [Nat.add_mul, Nat.mul_assoc, Nat.add_assoc]
theorem ep_seq {l : List UInt8} (h : l.length = 4096) : numV l 0 3 = epOf l ∧ numV l 3 5 = seqOf l := by
  have h3 : numOk l 0 3 = true := by simp [numOk, h]
  have h5 : numOk l 3 5 = true := by simp [numOk, h]
  have h8 : numOk l 0 8 = true := by simp [numOk, h]
  unfold epOf seqOf numV
  rw [if_pos h3, if_pos h5, if_pos h8]
  have e := numTo_add l 0 3 5
  have hb := numTo_lt l 3 5
  have e1 : (0 : Int).toNat = 0 := rfl
  have e2 : (3 : Int).toNat = 3 := rfl
  rw [e1, e2]
  simp only [Nat.reduceAdd, Nat.reducePow, Nat.zero_add] at e hb
  omega
/-- How many of so many bytes are not a stamp's. -/
def cnt (k : Nat) : Nat := k / 512 * 504 + (k % 512 - 8)
theorem cnt_skip {k : Nat} (h : k % 512 < 8) : cnt (k + 1) = cnt k := by unfold cnt; omega
theorem cnt_step {k : Nat} (h : ¬ k % 512 < 8) : cnt (k + 1) = cnt k + 1 := by unfold cnt; omega
theorem cnt_lt {k : Nat} (hk : k < 4096) (h : ¬ k % 512 < 8) : cnt k < 4032 := by unfold cnt; omega
theorem gath_step {l : List UInt8} (hl : l.length = 4096) {k : Nat} (hk : k < 4096) (h : ¬ k % 512 < 8) : (gathB l).take (cnt k) ++ [bat l k] = (gathB l).take (cnt (k + 1)) := by
  have h1 := cnt_lt hk h
  have h2 := gathB_length hl
  rw [cnt_step h, List.take_add_one, List.getElem?_eq_getElem (by omega)]
  have h3 : (gathB l)[cnt k]'(by omega) = bat l k := by
    have h4 := bat_gathB hl (cnt k) h1
    have h5 : cnt k / 504 * 512 + 8 + cnt k % 504 = k := by unfold cnt; omega
    rw [h5] at h4
    rw [← h4]
    simp [bat, h2, h1]
  rw [h3]
  rfl
/-- Where in a block so many hidden bytes end. -/
def pos (k : Nat) : Nat := k / 8 * 512 + k % 8
theorem putTo_gap (f : Nat → UInt8) (d : List UInt8) (a b : Nat) (h : ∀ p, p % 512 < 8 → (p < a ↔ p < b)) : putTo f d a = putTo f d b := by
  refine bat_ext (by simp [putTo]) fun j hj => ?_
  rw [putTo_length] at hj
  rw [bat_putTo _ _ _ _ hj, bat_putTo _ _ _ _ hj]
  by_cases h1 : j % 512 < 8
  · by_cases h2 : j < a
    · rw [if_pos ⟨h1, h2⟩, if_pos ⟨h1, (h j h1).1 h2⟩]
    · rw [if_neg (fun h3 => h2 h3.2), if_neg (fun h3 => h2 ((h j h1).2 h3.2))]
  · rw [if_neg (fun h3 => h1 h3.1), if_neg (fun h3 => h1 h3.1)]
theorem putTo_pos (f : Nat → UInt8) (d : List UInt8) (hd : d.length = 4096) (k : Nat) (hk : k < 64) : (putTo f d (pos k)).set (pos k) (f (pos k)) = putTo f d (pos (k + 1)) := by
  rw [putTo_set f d (pos k) (by rw [hd]; unfold pos; omega) (by unfold pos; omega)]
  refine putTo_gap f d _ _ fun p hp => ?_
  unfold pos
  omega
/-- A right group's head, by its length and what it says. -/
theorem isHead_alt {l : List UInt8} (hl : l.length = 4096) (hn : nOf (gathB l) ≤ 32) : isHead l = (rightG (epOf l : Int) (seqOf l : Int) (rdIms (gathB l) (nOf (gathB l))) && (headB (epOf l) (seqOf l) (rdIms (gathB l) (nOf (gathB l))) == l)) := by
  unfold isHead
  cases hr : rightG (epOf l : Int) (seqOf l : Int) (rdIms (gathB l) (nOf (gathB l))) with
  | false => simp
  | true =>
    obtain ⟨h1, h2, h3, h4, h5, h6, h7⟩ := rightG_out hr
    rw [rdIms_length] at h5 h6
    rw [decide_eq_true (show 1 ≤ nOf (gathB l) ∧ nOf (gathB l) ≤ 32 from ⟨h5, h6⟩)]
    by_cases he : headB (epOf l) (seqOf l) (rdIms (gathB l) (nOf (gathB l))) = l
    · have hs : stampedB (stampB (epOf l) (seqOf l)) l := by
        have := stamped_spread (stampB_length (epOf l) (seqOf l)) (inB_length (rdIms (gathB l) (nOf (gathB l))) (by rw [rdIms_length]; exact h6))
        have e2 : spreadB (stampB (epOf l) (seqOf l)) (inB (rdIms (gathB l) (nOf (gathB l)))) = l := he
        rwa [e2] at this
      have hd : stmpD l (epOf l : Int) (seqOf l : Int) = true := decide_eq_true ⟨h1, h2, h3, h4, by simpa using hs⟩
      rw [hd]
      simp
    · have : (headB (epOf l) (seqOf l) (rdIms (gathB l) (nOf (gathB l))) == l) = false := by simpa using he
      rw [this]
      simp
theorem isHead_short {l : List UInt8} (h : l.length ≠ 4096 ∨ 32 < nOf (gathB l)) : isHead l = false := by
  cases hh : isHead l with
  | false => rfl
  | true =>
    obtain ⟨h1, h2, h3⟩ := isHead_n hh
    omega
/-- What the document's read answers. -/
def RfPost (w : World) (l : List UInt8) (e : Ending) (w' : World) : Prop :=
  Below w.heap.size w w' ∧ ∃ (ep seq : Int) (ia : Option Addr) (im ic : Nat), e = .returned (.tuple #[.agg #[.int .i64 ep, .int .i64 seq, .slice ia im ic], .bool (isHead l)]) ∧
    (isHead l = true → ep = epOf l ∧ seq = seqOf l ∧ im = nOf (gathB l) ∧ ∃ gs, OwIm w.heap.size w' ia ic (nsOf (gathB l) (nOf (gathB l))) gs (shI (gathB l) (nOf (gathB l))))
end Go.Proofs.Ytknhfaplddgnlaa
