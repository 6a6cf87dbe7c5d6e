/- Plain laws of super: what is put is got back. -/
import Derived.Test.YtjblpejekcbokaaNode3
import Derived.Test.YtjblpejekcbokaaSup3
namespace Go.Proofs.Ytjblpejekcbokaa
open Go.RowKit
set_option linter.unusedVariables false
set_option linter.unusedSimpArgs false

theorem numV_lt_at (X Y L : List UInt8) (v n : Nat) (p : Int) (hp : p = (X.length : Int)) (hL : L = X ++ (be v n ++ Y)) (hv : v < 256 ^ n) : numV L p n = v := by
  rw [(numV_at X Y L v n p hp hL).2, Nat.mod_eq_of_lt hv]
theorem gN_supB (s : Sup) (h : okS s = true) (k : Nat) (hk : k < 4) : gN (supB s) k = (sNum s k : Int) := by
  have hl := sNum_lt h k
  have e : numV (supB s) (8 + 8 * (k : Int)) 8 = sNum s k := by
    have hL : ∃ Y, supB s = supTo s k ++ (be (sNum s k) 8 ++ Y) := by
      rcases k with _ | _ | _ | _ | k
      · exact ⟨_, by simp only [supB, supTo, List.append_assoc]; rfl⟩
      · exact ⟨_, by simp only [supB, supTo, List.append_assoc]; rfl⟩
      · exact ⟨_, by simp only [supB, supTo, List.append_assoc]; rfl⟩
      · exact ⟨_, by simp only [supB, supTo, List.append_assoc]; rfl⟩
      · omega
    obtain ⟨Y, hL⟩ := hL
    refine numV_lt_at (supTo s k) Y _ _ _ _ (by rw [supTo_length]; omega) hL ?_
    have : (256 : Nat) ^ 8 = 18446744073709551616 := by decide
    omega
  rw [gN, e, w64_nat _ (by omega)]
theorem getS_supB (s : Sup) (h : okS s = true) : getS (supB s) = s := by
  have h0 := gN_supB s h 0 (by decide); have h1 := gN_supB s h 1 (by decide); have h2 := gN_supB s h 2 (by decide); have h3 := gN_supB s h 3 (by decide)
  simp only [okS, decide_eq_true_eq] at h
  obtain ⟨b, e, q, t⟩ := s
  simp only [getS, Sup.mk.injEq, h0, h1, h2, h3]
  simp only [sNum] at *
  omega
theorem got_supB (s : Sup) (h : okS s = true) : gotS (supB s) = s ∧ gerrS (supB s) = 0 := by
  have : isS (supB s) = true := by simp [isS, getS_supB s h, h]
  simp [gotS, gerrS, this, getS_supB s h]
/-- What is got is put the same. -/
theorem sup_again (b : List UInt8) (h : gerrS b = 0) : okS (gotS b) = true ∧ putS (gotS b) = b := by
  have hi : isS b = true := by
    by_cases hi : isS b = true
    · exact hi
    · rw [gerrS, if_neg hi] at h; cases h
  rw [gotS, if_pos hi]
  simp only [isS, Bool.and_eq_true, beq_iff_eq] at hi
  exact ⟨hi.1, by rw [putS, if_pos hi.1, hi.2]⟩

theorem xsTo_split (l : List Ext) (n i : Nat) (h : i ≤ n) : ∃ R, xsTo l n = xsTo l i ++ R := by
  induction n with
  | zero => obtain rfl : i = 0 := by omega
            exact ⟨[], by simp⟩
  | succ n ih =>
    by_cases e : i = n + 1
    · subst e; exact ⟨[], by simp⟩
    · obtain ⟨R, hR⟩ := ih (by omega)
      exact ⟨R ++ xTo (xat l n) 3, by rw [xsTo, hR, List.append_assoc]⟩
theorem map_xat (l : List Ext) : (List.range l.length).map (xat l) = l := by
  apply List.ext_getElem?
  intro i
  rw [List.getElem?_map]
  rcases Nat.lt_or_ge i l.length with h | h
  · rw [List.getElem?_range h, List.getElem?_eq_getElem h]
    simp [xat, List.getD_eq_getElem?_getD, List.getElem?_eq_getElem h]
  · rw [List.getElem?_eq_none (by simpa using h), List.getElem?_eq_none h]; rfl
theorem xAtB_xsTo (P Y : List UInt8) (l : List Ext) (n i : Nat) (hi : i < n) (hr : (0 ≤ (xat l i).at_ ∧ (xat l i).at_ ≤ 512) ∧ (1 ≤ (xat l i).st ∧ (xat l i).st ≤ 512) ∧ (1 ≤ (xat l i).ct ∧ (xat l i).ct ≤ 512)) :
    xAtB (P ++ (xsTo l n ++ Y)) ((P.length : Int) + 6 * (i : Int)) = xat l i := by
  obtain ⟨R, hR⟩ := xsTo_split l n (i + 1) hi
  have hx : xTo (xat l i) 3 = be (xNum (xat l i) 0) 2 ++ (be (xNum (xat l i) 1) 2 ++ be (xNum (xat l i) 2) 2) := by simp [xTo]
  have hlen := xsTo_length l i
  have e0 := numV_lt_at (P ++ xsTo l i) (be (xNum (xat l i) 1) 2 ++ (be (xNum (xat l i) 2) 2 ++ (R ++ Y))) (P ++ (xsTo l n ++ Y)) (xNum (xat l i) 0) 2 ((P.length : Int) + 6 * (i : Int)) (by simp [hlen]) (by rw [hR, xsTo, hx]; simp) (by have := xNum_lt hr 0; omega)
  have e1 := numV_lt_at (P ++ xsTo l i ++ be (xNum (xat l i) 0) 2) (be (xNum (xat l i) 2) 2 ++ (R ++ Y)) (P ++ (xsTo l n ++ Y)) (xNum (xat l i) 1) 2 ((P.length : Int) + 6 * (i : Int) + 2) (by simp [hlen, be_length]; omega) (by rw [hR, xsTo, hx]; simp) (by have := xNum_lt hr 1; omega)
  have e2 := numV_lt_at (P ++ xsTo l i ++ be (xNum (xat l i) 0) 2 ++ be (xNum (xat l i) 1) 2) (R ++ Y) (P ++ (xsTo l n ++ Y)) (xNum (xat l i) 2) 2 ((P.length : Int) + 6 * (i : Int) + 4) (by simp [hlen, be_length]; omega) (by rw [hR, xsTo, hx]; simp) (by have := xNum_lt hr 2; omega)
  obtain ⟨q0, q1, q2⟩ := x_nums hr
  rw [xAtB, e0, e1, e2, ← q0, ← q1, ← q2]
theorem xsAtB_xsTo (P Y L : List UInt8) (l : List Ext) (p : Int) (n : Nat) (hp : p = (P.length : Int)) (hn : n = l.length) (hL : L = P ++ (xsTo l n ++ Y)) (hb : badTo l l.length = false) : xsAtB L p n = l := by
  subst hp hn hL
  conv => rhs; rw [← map_xat l]
  unfold xsAtB
  refine List.map_congr_left fun i hi => ?_
  have hi := List.mem_range.1 hi
  exact xAtB_xsTo P Y l l.length i hi (right_nums l l.length hb i hi)
theorem nodeX_nodeB (l : List Ext) (h : okL l = true) : nodeX (nodeB l) = l := by
  simp only [okL, Bool.and_eq_true, decide_eq_true_eq] at h
  have hb : badTo l l.length = false := by simpa [rightX] using h.2
  have hn : numV (nodeB l) 0 2 = l.length := numV_lt_at [] (be 0 2 ++ (be (crcMore 0 (inB l)) 4 ++ inB l)) _ _ _ _ rfl (by simp [nodeB]) (by have h2 : (256 : Nat) ^ 2 = 65536 := (by decide); omega)
  rw [nodeX, hn]
  refine xsAtB_xsTo (be l.length 2 ++ be 0 2 ++ be (crcMore 0 (inB l)) 4) (zeros (4088 - 6 * l.length)) _ l 8 _ (by simp [be_length]) rfl (by simp [nodeB, inB]) hb
theorem got_nodeB (l : List Ext) (h : okL l = true) : gotL (nodeB l) = l ∧ gerrL (nodeB l) = 0 := by
  have : isNode (nodeB l) = true := by simp [isNode, nodeX_nodeB l h, h]
  simp [gotL, gerrL, this, nodeX_nodeB l h]
theorem node_again (b : List UInt8) (h : gerrL b = 0) : okL (gotL b) = true ∧ putL (gotL b) = b := by
  have hi : isNode b = true := by
    by_cases hi : isNode b = true
    · exact hi
    · rw [gerrL, if_neg hi] at h; cases h
  rw [gotL, if_pos hi]
  simp only [isNode, Bool.and_eq_true, beq_iff_eq] at hi
  exact ⟨hi.1, by rw [putL, if_pos hi.1, hi.2]⟩
end Go.Proofs.Ytjblpejekcbokaa
