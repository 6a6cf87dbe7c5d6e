/- The document's Get: what it says (plain). -/
import Derived.Test.YtknhfaplddgnlaaRecU
namespace Go.Proofs.Ytknhfaplddgnlaa
open Go.RowKit
set_option maxHeartbeats 1000000
set_option maxRecDepth 100000
set_option linter.unusedVariables false
set_option linter.unusedSimpArgs false

/-- A block filled up to a place, but for what is hidden. -/
def fillTo (h b : List UInt8) (k : Nat) : List UInt8 := (List.range 4096).map fun p => if p % 512 < 8 then bat h (p / 512 * 8 + p % 512) else if p < k then bat b p else 0
theorem fillTo_length (h b : List UInt8) (k : Nat) : (fillTo h b k).length = 4096 := by simp [fillTo]
theorem bat_fillTo (h b : List UInt8) (k p : Nat) (hp : p < 4096) : bat (fillTo h b k) p = if p % 512 < 8 then bat h (p / 512 * 8 + p % 512) else if p < k then bat b p else 0 := by simp [fillTo, bat, hp]
theorem bat_zeros (n p : Nat) : bat (zeros n) p = 0 := by
  simp only [bat, zeros, List.getD_eq_getElem?_getD, List.getElem?_replicate]
  split <;> rfl
theorem fillTo_zero (h b : List UInt8) : fillTo h b 0 = shownB h (zeros 4096) := by
  refine bat_ext (by rw [fillTo_length, shownB_length, zeros_length]) fun p hp => ?_
  rw [fillTo_length] at hp
  rw [bat_fillTo _ _ _ _ hp, bat_shownB (zeros_length _) p hp, bat_zeros]
  simp
theorem fillTo_all (h b : List UInt8) (hb : b.length = 4096) : fillTo h b 4096 = shownB h b := by
  refine bat_ext (by rw [fillTo_length, shownB_length, hb]) fun p hp => ?_
  rw [fillTo_length] at hp
  rw [bat_fillTo _ _ _ _ hp, bat_shownB hb p hp, if_pos hp]
theorem fillTo_skip (h b : List UInt8) (k : Nat) (hk : k % 512 < 8) : fillTo h b (k + 1) = fillTo h b k := by
  refine bat_ext (by simp [fillTo]) fun p hp => ?_
  rw [fillTo_length] at hp
  rw [bat_fillTo _ _ _ _ hp, bat_fillTo _ _ _ _ hp]
  by_cases h1 : p % 512 < 8
  · rw [if_pos h1, if_pos h1]
  · rw [if_neg h1, if_neg h1]
    have : p ≠ k := fun e => h1 (e ▸ hk)
    by_cases h2 : p < k
    · rw [if_pos h2, if_pos (by omega)]
    · rw [if_neg h2, if_neg (by omega)]
theorem fillTo_set (h b : List UInt8) (k : Nat) (hk : k < 4096) (hm : ¬ k % 512 < 8) : (fillTo h b k).set k (bat b k) = fillTo h b (k + 1) := by
  refine bat_ext (by simp [fillTo]) fun p hp => ?_
  rw [List.length_set, fillTo_length] at hp
  rw [bat_set _ _ _ _ (by rw [fillTo_length]; exact hk), bat_fillTo _ _ _ _ hp, bat_fillTo _ _ _ _ hp]
  by_cases e : k = p
  · subst e
    rw [if_pos rfl, if_neg hm, if_pos (by omega)]
  · rw [if_neg e]
    by_cases h1 : p % 512 < 8
    · rw [if_pos h1, if_pos h1]
    · rw [if_neg h1, if_neg h1]
      by_cases h2 : p < k
      · rw [if_pos h2, if_pos (by omega)]
      · rw [if_neg h2, if_neg (by omega)]
/-- The images' data when so many have been filled. -/
def datF (inn : List UInt8) (t : List (List UInt8)) (n i : Nat) : List (List UInt8) := (List.range n).map fun j => shownB (hidI inn j) (if j < i then t.getD j [] else zeros 4096)
theorem datF_zero (inn : List UInt8) (t : List (List UInt8)) (n : Nat) : datF inn t n 0 = shI inn n := by simp [datF, shI]
theorem datF_at (inn : List UInt8) (t : List (List UInt8)) (n i : Nat) (h : i < n) : (datF inn t n i)[i]? = some (shownB (hidI inn i) (zeros 4096)) := by simp [datF, h]
theorem datF_set (inn : List UInt8) (t : List (List UInt8)) (n i : Nat) (b : List UInt8) (hb : t[i]? = some b) : (datF inn t n i).set i (shownB (hidI inn i) b) = datF inn t n (i + 1) := by
  refine List.ext_getElem (by simp [datF]) fun j h1 h2 => ?_
  have hj : j < n := by simpa [datF] using h2
  rw [List.getElem_set]
  by_cases e : i = j
  · subst e
    simp [datF, hb]
  · rw [if_neg e]
    by_cases h : j < i
    · simp [datF, h, show j < i + 1 by omega]
    · simp [datF, h, show ¬ j < i + 1 by omega]
theorem datF_all (inn : List UInt8) (t : List (List UInt8)) (n : Nat) : datF inn t n n = datI inn t n n := by
  refine List.map_congr_left fun j hj => ?_
  have : j < n := List.mem_range.1 hj
  simp [this]
/-- The group that blocks say. -/
def gotIms (inn : List UInt8) (t : List (List UInt8)) (n : Nat) : List Img := (nsOf inn n).zip (datI inn t n n)
theorem gotIms_length (inn : List UInt8) (t : List (List UInt8)) (n : Nat) : (gotIms inn t n).length = n := by simp [gotIms, nsOf_length, datI_length]
theorem gotIms_at (inn : List UInt8) (t : List (List UInt8)) (n j : Nat) (b : List UInt8) (h : j < n) (hb : t[j]? = some b) : (gotIms inn t n)[j]? = some (((numV inn ((6 + 66 * j : Nat) : Int) 2 : Nat) : Int), shownB (hidI inn j) b) := by
  simp [gotIms, List.getElem?_zip_eq_some, nsOf_at _ _ _ h, datI, h, hb]
theorem rdIms_at (inn : List UInt8) (n j : Nat) (h : j < n) : (rdIms inn n)[j]? = some (((numV inn ((6 + 66 * j : Nat) : Int) 2 : Nat) : Int), shownB (hidI inn j) (zeros 4096)) := by
  simp [rdIms, List.getElem?_zip_eq_some, nsOf_at _ _ _ h, shI, h]
theorem tabB_ext : ∀ l r : List Img, l.length = r.length → (∀ (j : Nat) (x y : Img), l[j]? = some x → r[j]? = some y → x.1 = y.1 ∧ hidB x.2 = hidB y.2) → tabB l = tabB r
  | [], [], _, _ => rfl
  | [], _ :: _, h, _ => by simp at h
  | _ :: _, [], h, _ => by simp at h
  | x :: l, y :: r, h, he => by
    have h0 := he 0 x y rfl rfl
    have := tabB_ext l r (by simpa using h) (fun j u v hu hv => he (j + 1) u v (by simpa using hu) (by simpa using hv))
    simp only [tabB, List.flatMap_cons] at this ⊢
    rw [this]
    simp only [tabE, h0.1, h0.2]
/-- Its head is the one that was read. -/
theorem got_head {inn : List UInt8} (hinn : inn.length = 4032) {n : Nat} (hn : n ≤ 32) {t : List (List UInt8)} (ht : t.length = n) (h4 : ∀ b ∈ t, b.length = 4096) (E Q : Nat) : headB E Q (gotIms inn t n) = headB E Q (rdIms inn n) := by
  have e : tabB (gotIms inn t n) = tabB (rdIms inn n) := by
    refine tabB_ext _ _ (by rw [gotIms_length, rdIms_length]) fun j x y hx hy => ?_
    have hj : j < n := by
      have := (List.getElem?_eq_some_iff.1 hx).1
      rwa [gotIms_length] at this
    obtain ⟨b, hb⟩ : ∃ b, t[j]? = some b := ⟨t[j]'(by omega), List.getElem?_eq_getElem _⟩
    rw [gotIms_at inn t n j b hj hb] at hx
    rw [rdIms_at inn n j hj] at hy
    cases hx
    cases hy
    have hl := hidI_length inn j n hinn hj hn
    exact ⟨rfl, by rw [hid_shown (h4 b (List.mem_of_getElem? hb)) hl, hid_shown (zeros_length _) hl]⟩
  unfold headB inB lB
  rw [e, gotIms_length, rdIms_length]
theorem got_right {inn : List UInt8} {n : Nat} {t : List (List UInt8)} (ht : t.length = n) (h4 : ∀ b ∈ t, b.length = 4096) (E Q : Int) (h : rightG E Q (rdIms inn n) = true) : rightG E Q (gotIms inn t n) = true := by
  obtain ⟨h1, h2, h3, h5, h6, h7, h8⟩ := rightG_out h
  have e : (gotIms inn t n).map (·.1) = (rdIms inn n).map (·.1) := by
    simp [gotIms, rdIms, List.map_fst_zip, nsOf_length, datI_length, shI_length]
  refine decide_eq_true ⟨h1, h2, h3, h5, by rw [gotIms_length]; rwa [rdIms_length] at h6, by rw [gotIms_length]; rwa [rdIms_length] at h7, fun x hx => ?_, by rw [e]; exact h8.2⟩
  obtain ⟨j, hj, rfl⟩ := List.getElem_of_mem hx
  have hj' : j < n := by rwa [gotIms_length] at hj
  obtain ⟨b, hb⟩ : ∃ b, t[j]? = some b := ⟨t[j]'(by omega), List.getElem?_eq_getElem _⟩
  have hg := gotIms_at inn t n j b hj' hb
  rw [List.getElem?_eq_getElem hj] at hg
  have hr := h8.1 _ (List.mem_of_getElem? (rdIms_at inn n j hj'))
  rw [Option.some.inj hg]
  exact ⟨hr.1, hr.2.1, by rw [shownB_length]; exact h4 b (List.mem_of_getElem? hb)⟩
/-- Blocks are a right group's: they are the blocks of what they say. -/
theorem getOK_iff {h : List UInt8} {t : List (List UInt8)} (hh : isHead h = true) (ht : t.length = nOf (gathB h)) (h4 : ∀ b ∈ t, b.length = 4096) :
    getOK (h :: t) = decide (putB (epOf h) (seqOf h) (gotIms (gathB h) t (nOf (gathB h))) = h :: t) := by
  obtain ⟨hl, hn1, hn2⟩ := isHead_n hh
  have hinn := gathB_length hl
  have hh2 := hh
  rw [isHead_alt hl hn2] at hh2
  simp only [Bool.and_eq_true, beq_iff_eq] at hh2
  obtain ⟨hR, hH⟩ := hh2
  obtain ⟨r1, r2, r3, r4, _⟩ := rightG_out hR
  have e1 : getOK (h :: t) = t.all (fun b => stmpD b (epOf h : Int) (seqOf h : Int)) := by simp [getOK, hh, ht]
  have e2 : putB (epOf h) (seqOf h) (gotIms (gathB h) t (nOf (gathB h))) = h :: (gotIms (gathB h) t (nOf (gathB h))).map fun x => markB (stampB (epOf h) (seqOf h)) x.2 := by
    unfold putB
    rw [got_head hinn hn2 ht h4, hH]
  rw [e1, e2, Bool.eq_iff_iff, decide_eq_true_iff]
  simp only [List.cons.injEq, true_and, List.all_eq_true]
  have hm : ∀ j b, t[j]? = some b → ((gotIms (gathB h) t (nOf (gathB h))).map fun x => markB (stampB (epOf h) (seqOf h)) x.2)[j]? = some (markB (stampB (epOf h) (seqOf h)) (shownB (hidI (gathB h) j) b)) := by
    intro j b hb
    have hj : j < nOf (gathB h) := by rw [← ht]; exact (List.getElem?_eq_some_iff.1 hb).1
    rw [List.getElem?_map, gotIms_at _ _ _ _ _ hj hb]
    rfl
  constructor
  · intro ha
    refine List.ext_getElem? fun j => ?_
    cases hb : t[j]? with
    | none =>
      rw [List.getElem?_map]
      have : (gotIms (gathB h) t (nOf (gathB h)))[j]? = none := by
        rw [List.getElem?_eq_none_iff] at hb ⊢
        rw [gotIms_length]
        omega
      rw [this]
      rfl
    | some b =>
      rw [hm j b hb, mark_shown]
      have := of_decide_eq_true (ha b (List.mem_of_getElem? hb))
      simpa using this.2.2.2.2
  · intro he b hb
    obtain ⟨j, hj, rfl⟩ := List.getElem_of_mem hb
    have h1 := hm j _ (List.getElem?_eq_getElem hj)
    rw [he, List.getElem?_eq_getElem hj] at h1
    have h2 := Option.some.inj h1
    have h3 : stampedB (stampB (epOf h) (seqOf h)) t[j] := by
      have := stamped_mark (m := stampB (epOf h) (seqOf h)) (d := shownB (hidI (gathB h) j) t[j]) (by rw [shownB_length]; exact h4 _ hb)
      rwa [← h2] at this
    exact decide_eq_true ⟨r1, r2, r3, r4, by simpa using h3⟩
end Go.Proofs.Ytknhfaplddgnlaa
