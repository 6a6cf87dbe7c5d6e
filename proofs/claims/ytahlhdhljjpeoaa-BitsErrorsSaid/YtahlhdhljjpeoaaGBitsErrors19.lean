/- Texts joined: Back3, Back4, SpA, SpB, BtJ. -/
import Derived.Test.YtahlhdhljjpeoaaGBitsErrors7
import Derived.Test.YtahlhdhljjpeoaaGBitsErrors9
import Derived.Test.YtahlhdhljjpeoaaGBitsErrors10
import Derived.Test.YtahlhdhljjpeoaaGBitsErrors11
import Derived.Test.YtahlhdhljjpeoaaGBitsErrors18
/- Plain laws of super: what is put is got back. -/
namespace Go.Proofs.Ytahlhdhljjpeoaa
open Go.RowKit
set_option linter.unusedVariables false
set_option linter.unusedSimpArgs false

theorem numV_lt_at (X Y L : List UInt8) (v n : Nat) (p : Int) (hp : p = (X.length : Int)) (hL : L = X ++ (be v n ++ Y)) (hv : v < 256 ^ n) : numV L p n = v := by
  rw [(numV_at X Y L v n p hp hL).2, Nat.mod_eq_of_lt hv]
theorem gN_supB (s : Sup) (h : okS s = true) (k : Nat) (hk : k < 4) : gN (supB s) k = (sNum s k : Int) := by
  have hl := sNum_lt h k
  have e : numV (supB s) (8 + 8 * (k : Int)) 8 = sNum s k := by
    have hL : ∃ Y, supB s = supTo s k ++ (be (sNum s k) 8 ++ Y) := by
      rcases k with _ | _ | _ | _ | k
      · exact ⟨_, by simp only [supB, supTo, List.append_assoc]; rfl⟩
      · exact ⟨_, by simp only [supB, supTo, List.append_assoc]; rfl⟩
      · exact ⟨_, by simp only [supB, supTo, List.append_assoc]; rfl⟩
      · exact ⟨_, by simp only [supB, supTo, List.append_assoc]; rfl⟩
      · omega
    obtain ⟨Y, hL⟩ := hL
    refine numV_lt_at (supTo s k) Y _ _ _ _ (by rw [supTo_length]; omega) hL ?_
    have : (256 : Nat) ^ 8 = 18446744073709551616 := by decide
    omega
  rw [gN, e, w64_nat _ (by omega)]
theorem getS_supB (s : Sup) (h : okS s = true) : getS (supB s) = s := by
  have h0 := gN_supB s h 0 (by decide); have h1 := gN_supB s h 1 (by decide); have h2 := gN_supB s h 2 (by decide); have h3 := gN_supB s h 3 (by decide)
  simp only [okS, decide_eq_true_eq] at h
  obtain ⟨b, e, q, t⟩ := s
  simp only [getS, Sup.mk.injEq, h0, h1, h2, h3]
  simp only [sNum] at *
  omega
theorem got_supB (s : Sup) (h : okS s = true) : gotS (supB s) = s ∧ gerrS (supB s) = 0 := by
  have : isS (supB s) = true := by simp [isS, getS_supB s h, h]
  simp [gotS, gerrS, this, getS_supB s h]
/-- What is got is put the same. -/
theorem sup_again (b : List UInt8) (h : gerrS b = 0) : okS (gotS b) = true ∧ putS (gotS b) = b := by
  have hi : isS b = true := by
    by_cases hi : isS b = true
    · exact hi
    · rw [gerrS, if_neg hi] at h; cases h
  rw [gotS, if_pos hi]
  simp only [isS, Bool.and_eq_true, beq_iff_eq] at hi
  exact ⟨hi.1, by rw [putS, if_pos hi.1, hi.2]⟩

theorem xsTo_split (l : List Ext) (n i : Nat) (h : i ≤ n) : ∃ R, xsTo l n = xsTo l i ++ R := by
  induction n with
  | zero => obtain rfl : i = 0 := by omega
            exact ⟨[], by simp⟩
  | succ n ih =>
    by_cases e : i = n + 1
    · subst e; exact ⟨[], by simp⟩
    · obtain ⟨R, hR⟩ := ih (by omega)
      exact ⟨R ++ xTo (xat l n) 3, by rw [xsTo, hR, List.append_assoc]⟩
theorem map_xat (l : List Ext) : (List.range l.length).map (xat l) = l := by
  apply List.ext_getElem?
  intro i
  rw [List.getElem?_map]
  rcases Nat.lt_or_ge i l.length with h | h
  · rw [List.getElem?_range h, List.getElem?_eq_getElem h]
    simp [xat, List.getD_eq_getElem?_getD, List.getElem?_eq_getElem h]
  · rw [List.getElem?_eq_none (by simpa using h), List.getElem?_eq_none h]; rfl
theorem xAtB_xsTo (P Y : List UInt8) (l : List Ext) (n i : Nat) (hi : i < n) (hr : (0 ≤ (xat l i).at_ ∧ (xat l i).at_ ≤ 512) ∧ (1 ≤ (xat l i).st ∧ (xat l i).st ≤ 512) ∧ (1 ≤ (xat l i).ct ∧ (xat l i).ct ≤ 512)) :
    xAtB (P ++ (xsTo l n ++ Y)) ((P.length : Int) + 6 * (i : Int)) = xat l i := by
  obtain ⟨R, hR⟩ := xsTo_split l n (i + 1) hi
  have hx : xTo (xat l i) 3 = be (xNum (xat l i) 0) 2 ++ (be (xNum (xat l i) 1) 2 ++ be (xNum (xat l i) 2) 2) := by simp [xTo]
  have hlen := xsTo_length l i
  have e0 := numV_lt_at (P ++ xsTo l i) (be (xNum (xat l i) 1) 2 ++ (be (xNum (xat l i) 2) 2 ++ (R ++ Y))) (P ++ (xsTo l n ++ Y)) (xNum (xat l i) 0) 2 ((P.length : Int) + 6 * (i : Int)) (by simp [hlen]) (by rw [hR, xsTo, hx]; simp) (by have := xNum_lt hr 0; omega)
  have e1 := numV_lt_at (P ++ xsTo l i ++ be (xNum (xat l i) 0) 2) (be (xNum (xat l i) 2) 2 ++ (R ++ Y)) (P ++ (xsTo l n ++ Y)) (xNum (xat l i) 1) 2 ((P.length : Int) + 6 * (i : Int) + 2) (by simp [hlen, be_length]; omega) (by rw [hR, xsTo, hx]; simp) (by have := xNum_lt hr 1; omega)
  have e2 := numV_lt_at (P ++ xsTo l i ++ be (xNum (xat l i) 0) 2 ++ be (xNum (xat l i) 1) 2) (R ++ Y) (P ++ (xsTo l n ++ Y)) (xNum (xat l i) 2) 2 ((P.length : Int) + 6 * (i : Int) + 4) (by simp [hlen, be_length]; omega) (by rw [hR, xsTo, hx]; simp) (by have := xNum_lt hr 2; omega)
  obtain ⟨q0, q1, q2⟩ := x_nums hr
  rw [xAtB, e0, e1, e2, ← q0, ← q1, ← q2]
theorem xsAtB_xsTo (P Y L : List UInt8) (l : List Ext) (p : Int) (n : Nat) (hp : p = (P.length : Int)) (hn : n = l.length) (hL : L = P ++ (xsTo l n ++ Y)) (hb : badTo l l.length = false) : xsAtB L p n = l := by
  subst hp hn hL
  conv => rhs; rw [← map_xat l]
  unfold xsAtB
  refine List.map_congr_left fun i hi => ?_
  have hi := List.mem_range.1 hi
  exact xAtB_xsTo P Y l l.length i hi (right_nums l l.length hb i hi)
theorem nodeX_nodeB (l : List Ext) (h : okL l = true) : nodeX (nodeB l) = l := by
  simp only [okL, Bool.and_eq_true, decide_eq_true_eq] at h
  have hb : badTo l l.length = false := by simpa [rightX] using h.2
  have hn : numV (nodeB l) 0 2 = l.length := numV_lt_at [] (be 0 2 ++ (be (crcMore 0 (inB l)) 4 ++ inB l)) _ _ _ _ rfl (by simp [nodeB]) (by have h2 : (256 : Nat) ^ 2 = 65536 := (by decide); omega)
  rw [nodeX, hn]
  refine xsAtB_xsTo (be l.length 2 ++ be 0 2 ++ be (crcMore 0 (inB l)) 4) (zeros (4088 - 6 * l.length)) _ l 8 _ (by simp [be_length]) rfl (by simp [nodeB, inB]) hb
theorem got_nodeB (l : List Ext) (h : okL l = true) : gotL (nodeB l) = l ∧ gerrL (nodeB l) = 0 := by
  have : isNode (nodeB l) = true := by simp [isNode, nodeX_nodeB l h, h]
  simp [gotL, gerrL, this, nodeX_nodeB l h]
theorem node_again (b : List UInt8) (h : gerrL b = 0) : okL (gotL b) = true ∧ putL (gotL b) = b := by
  have hi : isNode b = true := by
    by_cases hi : isNode b = true
    · exact hi
    · rw [gerrL, if_neg hi] at h; cases h
  rw [gotL, if_pos hi]
  simp only [isNode, Bool.and_eq_true, beq_iff_eq] at hi
  exact ⟨hi.1, by rw [putL, if_pos hi.1, hi.2]⟩
end Go.Proofs.Ytahlhdhljjpeoaa

/- Plain laws of super: an inode that is put is got back. -/
namespace Go.Proofs.Ytahlhdhljjpeoaa
open Go.RowKit
set_option linter.unusedVariables false
set_option linter.unusedSimpArgs false

theorem readInd_zeros : readInd (zeros 64) = ⟨0, 0, 0, 0, []⟩ := by decide +kernel
theorem readInd_indB (n : Ind) (h : okInd n = true) : readInd (indB n) = n := by
  obtain ⟨k, ln, sz, nd, l⟩ := n
  by_cases hk : k = 0
  · subst hk
    rw [okInd_free rfl, decide_eq_true_eq] at h
    obtain ⟨rfl, rfl, rfl, h4⟩ := h
    obtain rfl := List.eq_nil_of_length_eq_zero h4
    rw [show indB ⟨0, 0, 0, 0, []⟩ = zeros 64 from if_pos rfl]
    exact readInd_zeros
  · rw [okInd_kind hk, Bool.and_eq_true, decide_eq_true_eq] at h
    obtain ⟨⟨d1, ⟨d2, d3⟩, ⟨d4, d5⟩, ⟨d6, d7⟩, d8⟩, d9⟩ := h
    have hb : badTo l l.length = false := by simpa [rightX] using d9
    obtain ⟨ln, rfl⟩ := Int.eq_ofNat_of_zero_le d2
    obtain ⟨sz, rfl⟩ := Int.eq_ofNat_of_zero_le d4
    obtain ⟨nd, rfl⟩ := Int.eq_ofNat_of_zero_le d6
    have p2 : (256 : Nat) ^ 2 = 65536 := by decide
    have p4 : (256 : Nat) ^ 4 = 4294967296 := by decide
    have hF : (indF ⟨k, ln, sz, nd, l⟩).length = 26 := indF_length d8
    have hB : indB ⟨k, ln, sz, nd, l⟩ = [byteOf k, byteOf l.length] ++ (be ln 2 ++ (be sz 4 ++ (xsTo l l.length ++ (zeros (18 - 6 * l.length) ++ (be nd 2 ++ (zeros 32 ++ be (crcMore 0 (indM ⟨k, ln, sz, nd, l⟩)) 4)))))) := by
      rw [indB, if_neg hk]
      conv => lhs; arg 1; rw [indM, indF]
      simp [List.append_assoc]
    have hB2 : indB ⟨k, ln, sz, nd, l⟩ = indF ⟨k, ln, sz, nd, l⟩ ++ (be nd 2 ++ (zeros 32 ++ be (crcMore 0 (indM ⟨k, ln, sz, nd, l⟩)) 4)) := by
      rw [indB, if_neg hk]
      conv => lhs; arg 1; rw [indM]
      simp [List.append_assoc]
    have e0 : (bat (indB ⟨k, ln, sz, nd, l⟩) 0).toNat = k := by rw [hB]; exact byteOf_lt (by omega)
    have e1 : (bat (indB ⟨k, ln, sz, nd, l⟩) 1).toNat = l.length := by rw [hB]; exact byteOf_lt (by omega)
    have e2 : numV (indB ⟨k, ln, sz, nd, l⟩) 2 2 = ln := numV_lt_at [byteOf k, byteOf l.length] _ _ ln 2 _ rfl hB (by omega)
    have e3 : numV (indB ⟨k, ln, sz, nd, l⟩) 4 4 = sz := numV_lt_at ([byteOf k, byteOf l.length] ++ be ln 2) _ _ sz 4 _ (by simp [be_length]) (by rw [hB]; simp only [List.append_assoc]; rfl) (by omega)
    have e4 : numV (indB ⟨k, ln, sz, nd, l⟩) 26 2 = nd := numV_lt_at (indF ⟨k, ln, sz, nd, l⟩) _ _ nd 2 _ (by rw [hF]; rfl) hB2 (by omega)
    have e5 : xsAtB (indB ⟨k, ln, sz, nd, l⟩) 8 l.length = l := xsAtB_xsTo ([byteOf k, byteOf l.length] ++ be ln 2 ++ be sz 4) _ _ l 8 _ (by simp [be_length]) rfl (by rw [hB]; simp only [List.append_assoc]; rfl) hb
    rw [readInd, e0, e1, e2, e3, e4, Nat.min_eq_left d8, e5]
theorem got_indB (n : Ind) (h : okInd n = true) : gotInd (indB n) = n ∧ gerrInd (indB n) = 0 := by
  have : isInd (indB n) = true := by simp [isInd, readInd_indB n h, h]
  simp [gotInd, gerrInd, this, readInd_indB n h]
theorem ind_again (b : List UInt8) (h : gerrInd b = 0) : okInd (gotInd b) = true ∧ putInd (gotInd b) = b := by
  have hi : isInd b = true := by
    by_cases hi : isInd b = true
    · exact hi
    · rw [gerrInd, if_neg hi] at h; cases h
  rw [gotInd, if_pos hi]
  simp only [isInd, Bool.and_eq_true, beq_iff_eq] at hi
  exact ⟨hi.1, by rw [putInd, if_pos hi.1, hi.2]⟩
theorem gerrS_or (b : List UInt8) : gerrS b = 0 ∨ gerrS b = 30 := by unfold gerrS; split <;> simp
theorem gerrL_or (b : List UInt8) : gerrL b = 0 ∨ gerrL b = 30 := by unfold gerrL; split <;> simp
theorem gerrInd_or (b : List UInt8) : gerrInd b = 0 ∨ gerrInd b = 30 := by unfold gerrInd; split <;> simp
end Go.Proofs.Ytahlhdhljjpeoaa

/- A space whose bits and inodes are right (plain). -/
namespace Go.Proofs.Ytahlhdhljjpeoaa
open Go.RowKit
set_option maxHeartbeats 1000000
set_option maxRecDepth 100000
set_option linter.unusedVariables false
set_option linter.unusedSimpArgs false

/-- The bits are u, the blocks of inodes are I. -/
structure Sp (d : Pl) (l : Lay) (u : List Bool) (I : Nat → List UInt8) : Prop where
  R : rightL l = true
  bl : l.bl = (d.b.length : Int)
  bits : bitsB d l = wrB u
  len : u.length = d.b.length
  first : ∀ k, k < l.da.toNat → u.getD k false = true
  ino : ∀ k, k < l.ib.toNat → d.b.getD (l.ino.toNat + k) [] = I k
theorem Pl.off {d : Pl} (h : d.ends = false) : d.tick = d ∧ d.spent = false := by
  unfold Pl.tick Pl.spent
  rw [h]
  exact ⟨rfl, rfl⟩
theorem good_wrB (u : List Bool) (da n : Nat) (hn : u.length = n) (hn5 : n ≤ 512) (hda : da ≤ n) (hf : ∀ k, k < da → u.getD k false = true) : goodB (wrB u) da n = true := by
  subst hn
  have h2 := usedOf_wrB u (by omega)
  unfold goodB
  rw [h2, beq_self_eq_true, Bool.and_true, List.all_eq_true]
  intro k hk
  rw [List.mem_range] at hk
  rw [wrB, bitOf_wrTo _ _ _ (by omega), decide_eq_true (by omega), Bool.true_and]
  exact hf k hk
theorem Sp.bd {d : Pl} {l : Lay} {u : List Bool} {I : Nat → List UInt8} (h : Sp d l u I) : u.length ≤ 512 ∧ 64 ≤ u.length ∧ l.da.toNat ≤ u.length ∧ l.bi.toNat < u.length ∧ l.ino.toNat = l.bi.toNat + 1 ∧ l.ino.toNat + l.ib.toNat = l.da.toNat ∧ l.bl.toNat = u.length ∧ 4 ≤ l.ib.toNat := by
  have h1 := right_in h.R
  have h2 := h.bl
  have h3 := h.len
  omega
theorem Sp.good {d : Pl} {l : Lay} {u : List Bool} {I : Nat → List UInt8} (h : Sp d l u I) : goodB (bitsB d l) l.da.toNat l.bl.toNat = true := by
  obtain ⟨h1, h2, h3, h4, h5, h6, h7, h8⟩ := h.bd
  rw [h.bits]
  exact good_wrB u _ _ h7.symm (by omega) (by omega) h.first
theorem Sp.usedE {d : Pl} {l : Lay} {u : List Bool} {I : Nat → List UInt8} (h : Sp d l u I) : usedE d l = if d.spent = true then 4 else 0 := by
  unfold Go.Proofs.Ytahlhdhljjpeoaa.usedE
  rw [if_pos h.R, h.good]
  rfl
theorem Sp.usedU {d : Pl} {l : Lay} {u : List Bool} {I : Nat → List UInt8} (h : Sp d l u I) (hs : d.spent = false) : Go.Proofs.Ytahlhdhljjpeoaa.usedE d l = 0 ∧ Go.Proofs.Ytahlhdhljjpeoaa.usedU d l = u := by
  have e : Go.Proofs.Ytahlhdhljjpeoaa.usedE d l = 0 := by rw [h.usedE, hs]; rfl
  refine ⟨e, ?_⟩
  obtain ⟨h1, h2, h3, h4, h5, h6, h7, h8⟩ := h.bd
  unfold Go.Proofs.Ytahlhdhljjpeoaa.usedU
  rw [if_pos e, h.bits, h7]
  exact usedOf_wrB u (by omega)
theorem Sp.usedD {d : Pl} {l : Lay} {u : List Bool} {I : Nat → List UInt8} (h : Sp d l u I) : Go.Proofs.Ytahlhdhljjpeoaa.usedD d l = d.tick := by
  unfold Go.Proofs.Ytahlhdhljjpeoaa.usedD
  rw [if_pos h.R]
theorem Sp.of_b {d d' : Pl} {l : Lay} {u : List Bool} {I : Nat → List UInt8} (h : Sp d l u I) (hb : d'.b = d.b) : Sp d' l u I :=
  ⟨h.R, by rw [hb]; exact h.bl, by unfold bitsB; rw [hb]; exact h.bits, by rw [hb]; exact h.len, h.first, fun k hk => by rw [hb]; exact h.ino k hk⟩
theorem Sp.tick {d : Pl} {l : Lay} {u : List Bool} {I : Nat → List UInt8} (h : Sp d l u I) : Sp d.tick l u I := h.of_b (tick_b d).1
theorem getD_setL {α : Type} (l : List α) (k j : Nat) (v x : α) (hj : j < l.length) : (l.set k v).getD j x = if k = j then v else l.getD j x := by
  rw [List.getD_eq_getElem?_getD, List.getElem?_set]
  by_cases e : k = j
  · subst e; simp [hj]
  · rw [if_neg e, if_neg e, List.getD_eq_getElem?_getD]
theorem Sp.putBits {d : Pl} {l : Lay} {u u' : List Bool} {I : Nat → List UInt8} (h : Sp d l u I) (hl : u'.length = u.length) (hf : ∀ k, k < l.da.toNat → u'.getD k false = true) : Sp (d.put l.bi.toNat (wrB u')) l u' I := by
  obtain ⟨h1, h2, h3, h4, h5, h6, h7, h8⟩ := h.bd
  have h9 := h.len
  refine ⟨h.R, by simp [Pl.put, h.bl], ?_, by simp [Pl.put, hl, h.len], hf, fun k hk => ?_⟩
  · unfold bitsB Pl.put
    rw [getD_setL _ _ _ _ _ (by omega), if_pos rfl]
  · unfold Pl.put
    rw [getD_setL _ _ _ _ _ (by omega), if_neg (by omega)]
    exact h.ino k hk
theorem Sp.putIno {d : Pl} {l : Lay} {u : List Bool} {I : Nat → List UInt8} (h : Sp d l u I) (k : Nat) (hk : k < l.ib.toNat) (x : List UInt8) : Sp (d.put (l.ino.toNat + k) x) l u (upd I k x) := by
  obtain ⟨h1, h2, h3, h4, h5, h6, h7, h8⟩ := h.bd
  have h9 := h.len
  refine ⟨h.R, by simp [Pl.put, h.bl], ?_, by simp [Pl.put, h.len], h.first, fun j hj => ?_⟩
  · unfold bitsB Pl.put
    rw [getD_setL _ _ _ _ _ (by omega), if_neg (by omega)]
    exact h.bits
  · unfold Pl.put upd
    rw [getD_setL _ _ _ _ _ (by omega)]
    by_cases e : j = k
    · subst e; rw [if_pos rfl, if_pos rfl]
    · rw [if_neg (by omega), if_neg e]
      exact h.ino j hj
theorem takes_first : ∀ (u : List Bool) (l : List (Nat × Nat)) (u' : List Bool) (k : Nat), Takes u l u' → k < u.length → u.getD k false = true → u'.getD k false = true
  | u, [], u', k, h, hk, hu => by cases h; exact hu
  | u, x :: xs, u', k, h, hk, hu => by
    obtain ⟨h1, h2⟩ := h
    refine takes_first _ xs u' k h2 (by rw [setU_length]; exact hk) ?_
    rw [setU_getD _ _ _ _ _ hk]
    split
    · rfl
    · exact hu
/-- Alloc, where the space answers. -/
theorem Sp.alc {d : Pl} {l : Lay} {u : List Bool} {I : Nat → List UInt8} (h : Sp d l u I) (he : d.ends = false) (n : Nat) (h1 : 1 ≤ n) (h2 : n ≤ u.length) :
    (allocGo n u n [] = none ∧ alcP d l n = (d, [], 230)) ∨ (∃ u' o, allocGo n u n [] = some (u', o) ∧ alcP d l n = (d.put l.bi.toNat (wrB u'), o, 0) ∧ Sp (d.put l.bi.toNat (wrB u')) l u' I) := by
  obtain ⟨ht, hs⟩ := Pl.off he
  obtain ⟨e1, e2⟩ := h.usedU hs
  have hok : alOk l (n : Int) = true := by
    unfold alOk
    have := h.bl
    have := h.len
    exact decide_eq_true (by omega)
  have hA : alcP d l n = match allocGo n u n [] with
    | none => (d, [], 230)
    | some r => (d.put l.bi.toNat (wrB r.1), r.2, 0) := by
    unfold alcP
    rw [if_pos h.R, if_pos hok, if_pos e1, e2, Int.toNat_natCast, ht, hs, ht]
    rfl
  rw [hA]
  cases hg : allocGo n u n [] with
  | none => exact .inl ⟨rfl, rfl⟩
  | some r =>
    obtain ⟨u', o⟩ := r
    obtain ⟨new, e3, e4, e5, e6⟩ := allocGo_some n u n [] u' o (Nat.le_refl _) hg
    refine .inr ⟨u', o, rfl, rfl, h.putBits (takes_count _ _ _ e4).2 (fun k hk => takes_first _ _ _ k e4 ?_ (h.first k hk))⟩
    have := h.bd
    omega
theorem Sp.fre {d : Pl} {l : Lay} {u : List Bool} {I : Nat → List UInt8} (h : Sp d l u I) (he : d.ends = false) (st ct : Nat) (h1 : l.da.toNat ≤ st) (h2 : 1 ≤ ct) (h3 : st + ct ≤ u.length) :
    (frB u st ct = true ∧ freP d l st ct = (d, 30)) ∨ (frB u st ct = false ∧ freP d l st ct = (d.put l.bi.toNat (wrB (setU u st ct false)), 0) ∧ Sp (d.put l.bi.toNat (wrB (setU u st ct false))) l (setU u st ct false) I) := by
  obtain ⟨ht, hs⟩ := Pl.off he
  obtain ⟨e1, e2⟩ := h.usedU hs
  have hok : frOk l (st : Int) (ct : Int) = true := by
    unfold frOk
    have := h.bl
    have := h.len
    have := right_in h.R
    exact decide_eq_true (by omega)
  have hA : freP d l st ct = if frB u st ct = true then (d, 30) else (d.put l.bi.toNat (wrB (setU u st ct false)), 0) := by
    unfold freP wrBit
    rw [if_pos h.R, if_pos hok, if_pos e1, e2, Int.toNat_natCast, Int.toNat_natCast, ht, hs, ht]
    rfl
  rw [hA]
  cases hb : frB u st ct with
  | true => exact .inl ⟨rfl, rfl⟩
  | false =>
    refine .inr ⟨rfl, rfl, h.putBits (setU_length _ _ _ _) (fun k hk => ?_)⟩
    have hb2 := h.bd
    rw [setU_getD _ _ _ _ _ (by omega), if_neg (by omega)]
    exact h.first k hk
/-- All inodes are right. -/
def OkI (I : Nat → List UInt8) (ib : Nat) : Prop := ∀ k, k < ib → ∀ j, j < 64 → gerrInd (slotB (I k) j) = 0
theorem cntGo_ok (b : List UInt8) : ∀ (m j c : Nat), m + j = 64 → (∀ j, j < 64 → gerrInd (slotB b j) = 0) → (cntGo b m j c).2 = 0
  | 0, j, c, h, hb => rfl
  | m + 1, j, c, h, hb => by
    unfold cntGo
    rw [if_pos (hb j (by omega))]
    exact cntGo_ok b m (j + 1) _ (by omega) hb
theorem cntGo_zero (b : List UInt8) : ∀ (m j c : Nat), m + j = 64 → (∀ j, j < 64 → gerrInd (slotB b j) = 0 ∧ (gotInd (slotB b j)).k = 0) → cntGo b m j c = (c + m, 0)
  | 0, j, c, h, hb => rfl
  | m + 1, j, c, h, hb => by
    unfold cntGo
    obtain ⟨h1, h2⟩ := hb j (by omega)
    rw [if_pos h1, if_pos h2, cntGo_zero b m (j + 1) _ (by omega) hb, show c + 1 + m = c + (m + 1) by omega]
theorem got_zeros : gerrInd (zeros 64) = 0 ∧ gotInd (zeros 64) = ⟨0, 0, 0, 0, []⟩ := by
  have h : okInd ⟨0, 0, 0, 0, []⟩ = true := by decide
  have e : indB ⟨0, 0, 0, 0, []⟩ = zeros 64 := rfl
  have := got_indB ⟨0, 0, 0, 0, []⟩ h
  rw [e] at this
  exact ⟨this.2, this.1⟩
theorem slot_zeros (j : Nat) (h : j < 64) : slotB (zeros 4096) j = zeros 64 := by
  unfold slotB zeros
  rw [List.drop_replicate, List.take_replicate, Nat.min_eq_left (by omega)]
theorem lefGo_off {l : Lay} : ∀ (m k : Nat) (d : Pl) (c : Nat) (I : Nat → List UInt8), d.ends = false → (∀ i, k ≤ i → i < k + m → d.b.getD (l.ino.toNat + i) [] = I i) → (∀ i, k ≤ i → i < k + m → ∀ j, j < 64 → gerrInd (slotB (I i) j) = 0) → (lefGo l.ino.toNat m k d c).1 = d ∧ (lefGo l.ino.toNat m k d c).2.2 = 0
  | 0, k, d, c, I, he, hI, hk => ⟨rfl, rfl⟩
  | m + 1, k, d, c, I, he, hI, hk => by
    obtain ⟨ht, hs⟩ := Pl.off he
    unfold lefGo
    rw [hs, if_neg (by decide), hI k (by omega) (by omega), ht, if_pos (cntGo_ok _ 64 0 c rfl (hk k (by omega) (by omega)))]
    exact lefGo_off m (k + 1) d _ I he (fun i h1 h2 => hI i (by omega) (by omega)) (fun i h1 h2 => hk i (by omega) (by omega))
theorem lefGo_zeros {l : Lay} : ∀ (m k : Nat) (d : Pl) (c : Nat), d.ends = false → (∀ i, k ≤ i → i < k + m → d.b.getD (l.ino.toNat + i) [] = zeros 4096) → lefGo l.ino.toNat m k d c = (d, c + 64 * m, 0)
  | 0, k, d, c, he, hI => by simp [lefGo]
  | m + 1, k, d, c, he, hI => by
    obtain ⟨ht, hs⟩ := Pl.off he
    have hz : ∀ j, j < 64 → gerrInd (slotB (zeros 4096) j) = 0 ∧ (gotInd (slotB (zeros 4096) j)).k = 0 := fun j hj => by
      rw [slot_zeros j hj, got_zeros.1, got_zeros.2]
      exact ⟨rfl, rfl⟩
    unfold lefGo
    rw [hs, if_neg (by decide), hI k (by omega) (by omega), ht, cntGo_zero _ 64 0 c rfl hz, if_pos rfl, lefGo_zeros m (k + 1) d _ he (fun i h1 h2 => hI i (by omega) (by omega))]
    congr 2
    simp only
    omega
theorem Sp.lef {d : Pl} {l : Lay} {u : List Bool} {I : Nat → List UInt8} (h : Sp d l u I) (he : d.ends = false) (hI : OkI I l.ib.toNat) : (lefP d l).1 = d ∧ (lefP d l).2.1 = freeC u ∧ (lefP d l).2.2.2 = 0 := by
  obtain ⟨ht, hs⟩ := Pl.off he
  obtain ⟨e1, e2⟩ := h.usedU hs
  obtain ⟨a1, a2⟩ := lefGo_off (l := l) l.ib.toNat 0 d 0 I he (fun i h1 h2 => h.ino i (by omega)) (fun i h1 h2 => hI i (by omega))
  unfold lefP
  rw [if_pos e1, h.usedD, e2, ht, if_pos a2]
  exact ⟨a1, rfl, rfl⟩
theorem Sp.lefZ {d : Pl} {l : Lay} {u : List Bool} (h : Sp d l u (fun _ => zeros 4096)) (he : d.ends = false) : lefP d l = (d, freeC u, 64 * l.ib.toNat, 0) := by
  obtain ⟨ht, hs⟩ := Pl.off he
  obtain ⟨e1, e2⟩ := h.usedU hs
  have a := lefGo_zeros (l := l) l.ib.toNat 0 d 0 he (fun i h1 h2 => h.ino i (by omega))
  unfold lefP
  rw [if_pos e1, h.usedD, e2, ht, a]
  simp
/-- The first unused inode. -/
theorem scanB_at (b : List UInt8) (s : Nat) (hs : s ≤ 64) (h1 : ∀ j, j < s → gerrInd (slotB b j) = 0 ∧ (gotInd (slotB b j)).k ≠ 0) (h2 : s < 64 → gerrInd (slotB b s) = 0 ∧ (gotInd (slotB b s)).k = 0) : ∀ (m j : Nat), m + j = 64 → j ≤ s → scanB b m j = (s, 0)
  | 0, j, h, hj => by unfold scanB; rw [show j = s by omega]
  | m + 1, j, h, hj => by
    unfold scanB
    rcases Nat.lt_or_ge j s with h3 | h3
    · obtain ⟨a1, a2⟩ := h1 j h3
      rw [if_pos a1, if_neg a2]
      exact scanB_at b s hs h1 h2 m (j + 1) (by omega) (by omega)
    · obtain rfl : j = s := by omega
      obtain ⟨a1, a2⟩ := h2 (by omega)
      rw [if_pos a1, if_pos a2]
end Go.Proofs.Ytahlhdhljjpeoaa

/- The emptied space (plain). -/
namespace Go.Proofs.Ytahlhdhljjpeoaa
open Go.RowKit
set_option maxHeartbeats 3200000
set_option maxRecDepth 100000
set_option linter.unusedVariables false
set_option linter.unusedSimpArgs false

/-- So many blocks of noughts. -/
def spZ (n : Nat) : Pl := ⟨List.replicate n (zeros 4096), false, 0, 0⟩
/-- The emptied space of so many blocks. -/
def spD (n : Nat) : Pl := ⟨(List.replicate n (zeros 4096)).set (ofL n).bi.toNat (wrB (emU n 0 (ofL n).da.toNat)), false, 0, 1 + (ofL n).ib.toNat⟩
theorem emRun_off : ∀ (ws : List (Nat × List UInt8)) (d : Pl), d.ends = false → emRun d ws = (ws.foldl (fun d x => d.put x.1 x.2) d, 0)
  | [], d, h => rfl
  | x :: xs, d, h => by
    obtain ⟨ht, hs⟩ := Pl.off h
    unfold emRun
    rw [hs, if_neg (by decide), ht]
    exact emRun_off xs (d.put x.1 x.2) h
theorem set_same {α : Type} (l : List α) (k : Nat) (v : α) (h : l[k]? = some v) : l.set k v = l := by
  refine List.ext_getElem? fun j => ?_
  rw [List.getElem?_set]
  by_cases e : k = j
  · subst e
    rw [if_pos rfl, h, if_pos (List.getElem?_eq_some_iff.1 h).1]
  · rw [if_neg e]
theorem foldl_zeros : ∀ (ws : List (Nat × List UInt8)) (d : Pl), (∀ x ∈ ws, d.b[x.1]? = some x.2) → ws.foldl (fun d x => d.put x.1 x.2) d = { d with did := d.did + ws.length }
  | [], d, h => rfl
  | x :: xs, d, h => by
    have h1 := h x List.mem_cons_self
    have e : d.put x.1 x.2 = { d with did := d.did + 1 } := by
      unfold Pl.put
      rw [set_same _ _ _ h1]
    rw [List.foldl_cons, e, foldl_zeros xs { d with did := d.did + 1 } (fun y hy => h y (List.mem_cons_of_mem _ hy))]
    simp only [List.length_cons]
    congr 1
    omega
theorem right_ofL (n : Nat) (h1 : 64 ≤ n) (h2 : n ≤ 512) : rightL (ofL n) = true ∧ (ofL n).bl = (n : Int) := by
  have hok : okN (n : Int) = true := decide_eq_true (by omega)
  have e : (ofL (n : Int)).bl = (n : Int) := by unfold ofL; rw [if_pos hok]
  refine ⟨?_, e⟩
  unfold rightL
  rw [e, hok]
  simp
theorem emu_len (N da k : Nat) (h : k ≤ N) : (emU N da k).length = N := by unfold emU; simp; omega
theorem emu_at (N da k j : Nat) (hj : j < N) : (emU N da k).getD j false = decide (j < k) := by
  unfold emU
  rw [List.getD_eq_getElem?_getD]
  by_cases h : j < k
  · rw [List.getElem?_append_left (by simpa using h), List.getElem?_replicate, if_pos h, decide_eq_true h]; rfl
  · rw [List.getElem?_append_right (by simp; omega), List.getElem?_replicate, decide_eq_false h]
    split <;> rfl
theorem spD_is (n : Nat) (h1 : 64 ≤ n) (h2 : n ≤ 512) : emRun (spZ n) (emWs (ofL n)) = (spD n, 0) := by
  obtain ⟨hR, hbl⟩ := right_ofL n h1 h2
  have hin := right_in hR
  rw [emRun_off _ _ rfl]
  unfold emWs
  rw [List.foldl_cons, foldl_zeros _ _ (fun x hx => ?_)]
  · simp only [Pl.put, spZ, spD, List.length_map, List.length_range, hbl, Int.toNat_natCast]
  · obtain ⟨k, hk, rfl⟩ := List.mem_map.1 hx
    rw [List.mem_range] at hk
    simp only [Pl.put, spZ]
    rw [List.getElem?_set, if_neg (by omega), List.getElem?_replicate, if_pos (by omega)]
theorem spD_sp (n : Nat) (h1 : 64 ≤ n) (h2 : n ≤ 512) : Sp (spD n) (ofL n) (emU n 0 (ofL n).da.toNat) (fun _ => zeros 4096) := by
  obtain ⟨hR, hbl⟩ := right_ofL n h1 h2
  have hin := right_in hR
  have hl : (spD n).b.length = n := by simp [spD]
  refine ⟨hR, by rw [hl, hbl], ?_, by rw [hl, emu_len _ _ _ (by omega)], fun k hk => by rw [emu_at _ _ _ _ (by omega)]; exact decide_eq_true hk, fun k hk => ?_⟩
  · unfold bitsB spD
    rw [getD_setL _ _ _ _ _ (by simp; omega), if_pos rfl]
  · unfold spD
    rw [getD_setL _ _ _ _ _ (by simp; omega), if_neg (by omega), List.getD_eq_getElem?_getD, List.getElem?_replicate, if_pos (by omega)]
    rfl
theorem spZ_ok (n : Nat) (h1 : 1 ≤ n) (h2 : n ≤ 512) : (spZ n).ok :=
  ⟨by simp [spZ]; omega, by simp [spZ]; omega, fun l hl => by rw [List.eq_of_mem_replicate hl]; simp [zeros], by simp [spZ], by simp [spZ]⟩
end Go.Proofs.Ytahlhdhljjpeoaa

/- ledgerstonelow.Blank. -/
namespace Go.Proofs.Ytahlhdhljjpeoaa
open Go.RowKit
set_option maxHeartbeats 1500000
set_option maxRecDepth 100000
set_option linter.unusedVariables false
set_option linter.unusedSimpArgs false

theorem info_LB : (Try.prog.info? 61).map (fun i => (i.zero, i.size, i.bytes)) = some (some (.slice none 0 0), 1, 24) := by kernel_rfl
theorem Blank_any (w : World) (n : Nat) (hn : n ≤ 1000) :
    Calls Try.prog 31 #[.int .i64 (n : Int)] w fun e w' => ∃ A c xs, e = .returned (.slice A n c) ∧ w'.ownsRow w.heap.size 61 1 (.slice A n c) n xs ∧ Dats QT w' xs (List.replicate n (zeros 4096)) ∧ Below w.heap.size w w' := by
  have hmk := fun W => run_mkB 4096 4096 4096 rfl rfl (by omega) W
  have hz4 := fun (W : World) (hb : W.heap.size ≤ W.heap.size) => OwnB.made W 4096 hb (by omega)
  obtain ⟨Z, hZ⟩ : ∃ Z : Array Value, Z = madeCells #[.int .u8 0] 4096 := ⟨_, rfl⟩
  simp only [← hZ] at hmk hz4
  have HZ := hid hz4
  clear hZ hz4
  go_enter Try.func31, Try.ntmps31
  go_wp2_with fail
  go_loopw [3, 4] (fun vo i wr => ∃ k oa oc xs, k ≤ n ∧ i = .int .i64 ((k : Nat) : Int) ∧ vo = .slice oa k oc ∧ wr.ownsRow w.heap.size 61 1 (.slice oa k oc) k xs ∧ Dats QT wr xs (List.replicate k (zeros 4096)) ∧ Below w.heap.size w wr) (fun _ i _ => n - (intOf i).toNat)
  case atStart => exact ⟨0, none, 0, [], Nat.zero_le _, rfl, rfl, World.ownsRow_nil _ _ _ _, Dats.nil _, Below.refl _ _⟩
  case round => as_aux_lemma =>
    obtain ⟨k, oa, oc, xs, hk, rfl, rfl, q1, q2, q3⟩ := hrel
    by_cases hlt : k < n
    · have b1 : Below wr.heap.size wr (wr.alloc (.cells Z 5)) := (Below.refl _ _).alloc (Nat.le_refl _) _
      have oz := HZ.out wr (Nat.le_refl _)
      have hz1 : (wr.alloc (.cells Z 5)).heap.size = wr.heap.size + 1 := by simp
      have b2 : Below (wr.alloc (.cells Z 5)).heap.size (wr.alloc (.cells Z 5)) ((wr.alloc (.cells Z 5)).alloc (.cells #[.slice (some ⟨wr.heap.size, 0, none⟩) 4096 4096] 61)) := (Below.refl _ _).alloc (Nat.le_refl _) _
      have q12 := own_below (own_below q1 b1) b2
      have q22 := ((q2.below b1).below b2).snoc (Dat.own (Q := QT) (oz.below b2) trivial)
      have q32 := (q3.trans (b1.mono q3.size)).trans (b2.mono (q3.trans (b1.mono q3.size)).size)
      have hnu : ∀ b, (Value.slice oa k oc).ownBlock = some b → ¬ U8 ((wr.alloc (.cells Z 5)).alloc (.cells #[.slice (some ⟨wr.heap.size, 0, none⟩) 4096 4096] 61)) b := fun b hb => by
        obtain ⟨_, _, cs, hc⟩ := own_row q12 hb
        exact row_not_u8 hc (by decide)
      have r5 : RdV ((wr.alloc (.cells Z 5)).alloc (.cells #[.slice (some ⟨wr.heap.size, 0, none⟩) 4096 4096] 61)) (some ⟨wr.heap.size + 1, 0, none⟩) [.slice (some ⟨wr.heap.size, 0, none⟩) 4096 4096] := by
        have := RdV.one (w := wr.alloc (.cells Z 5)) (v := .slice (some ⟨wr.heap.size, 0, none⟩) 4096 4096) (t := 61)
        rwa [hz1] at this
      have Q1 := hid q12; have Q2 := hid q22; have Q3 := hid q32; have HU := hid hnu; have R5 := hid r5
      clear q1 q2 q3 b1 b2 oz q12 q22 q32 hnu r5 hz1
      go_wp2_with (with_reducible refine app_own rfl (.tmp 10) (.tmp 12) 48 61 (.slice none 0 0) 1 24 rfl Try.underlying48 info_LB rfl (by decide) (by decide) w.heap.size (.slice oa k oc) k xs rfl Q1.out (some ⟨wr.heap.size + 1, 0, none⟩) 1 1 [.slice (some ⟨wr.heap.size, 0, none⟩) 4096 4096] rfl rfl R5.out (by simp [Value.oneCell']) (by omega) w Q3.out Q3.out.size ?_; intro A1 c1 w6 h6a h6b h6c h6d)
      have K6 := Kpt.of_grown (S := fun b => (Value.slice oa k oc).ownBlock = some b) h6c (fun j e => e)
      have D6 := hid (Q2.out.kpt K6 HU.out)
      have H6 := hid h6a
      clear h6a h6c h6d K6
      go_roundw
      case rel =>
        refine ⟨k + 1, A1, c1, xs ++ [.slice (some ⟨wr.heap.size, 0, none⟩) 4096 4096], by omega, by go_num, rfl, H6.out, ?_, h6b⟩
        rw [List.replicate_succ']
        exact D6.out
      case measure => simp [intOf]; omega
    · obtain rfl : k = n := by omega
      have Q1 := hid q1; have Q2 := hid q2; have Q3 := hid q3
      clear q1 q2 q3
      go_wp2
      go_ret
      exact ⟨oa, oc, xs, rfl, Q1.out, Q2.out, Q3.out⟩
end Go.Proofs.Ytahlhdhljjpeoaa
