/- Groups as blocks: the plain functions, and what they say of one another. -/
import Derived.Test.YtknhfaplddgnlaaSplice
import Derived.Test.YtknhfaplddgnlaaOct3
namespace Go.Proofs.Ytknhfaplddgnlaa
set_option maxHeartbeats 1600000
set_option maxRecDepth 20000
set_option linter.unusedVariables false
set_option linter.unusedSimpArgs false

theorem bat_ext {l r : List UInt8} (h : l.length = r.length) (h2 : ∀ k, k < l.length → bat l k = bat r k) : l = r := by
  refine List.ext_getElem h fun k h3 h4 => ?_
  have := h2 k h3
  simpa [bat, h3, h4] using this
theorem bat_drop (l : List UInt8) (n k : Nat) : bat (l.drop n) k = bat l (n + k) := by simp [bat, List.getD_eq_getElem?_getD, List.getElem?_drop]
theorem bat_take (l : List UInt8) (n k : Nat) (h : k < n) : bat (l.take n) k = bat l k := by simp [bat, List.getD_eq_getElem?_getD, List.getElem?_take, h]
theorem bat_part (l : List UInt8) (p n k : Nat) (h : k < n) : bat ((l.drop p).take n) k = bat l (p + k) := by rw [bat_take _ _ _ h, bat_drop]
theorem part_length (l : List UInt8) (p n : Nat) (h : p + n ≤ l.length) : ((l.drop p).take n).length = n := by simp; omega
theorem bat_splice (l r : List UInt8) (off k : Nat) (h : off + r.length ≤ l.length) : bat (splice l off r) k = if off ≤ k ∧ k < off + r.length then bat r (k - off) else bat l k := by
  have e0 : (l.take off).length = off := by simp; omega
  unfold splice
  by_cases h1 : k < off
  · rw [if_neg (by omega), bat_left _ _ _ (by omega), bat_take _ _ _ h1]
  · by_cases h2 : k < off + r.length
    · rw [if_pos ⟨by omega, h2⟩, bat_right _ _ (k - off) _ (by omega), bat_left _ _ _ (by omega)]
    · rw [if_neg (by omega), bat_right _ _ (k - off) _ (by omega), bat_right _ _ (k - off - r.length) _ (by omega), bat_drop]
      congr 1
      omega
/-- The bytes of eight places in each sector, up to a place, are others. -/
def putTo (f : Nat → UInt8) (d : List UInt8) (n : Nat) : List UInt8 := (List.range d.length).map fun k => if k % 512 < 8 ∧ k < n then f k else bat d k
theorem putTo_length (f : Nat → UInt8) (d : List UInt8) (n : Nat) : (putTo f d n).length = d.length := by simp [putTo]
theorem bat_putTo (f : Nat → UInt8) (d : List UInt8) (n k : Nat) (h : k < d.length) : bat (putTo f d n) k = if k % 512 < 8 ∧ k < n then f k else bat d k := by simp [putTo, bat, h]
theorem putTo_zero (f : Nat → UInt8) (d : List UInt8) : putTo f d 0 = d := bat_ext (putTo_length _ _ _) fun k h => by
  rw [putTo_length] at h
  rw [bat_putTo _ _ _ _ h, if_neg (by omega)]
theorem putTo_copy (f : Nat → UInt8) (d r : List UInt8) (s : Nat) (hd : d.length = 4096) (hs : s < 8) (hr : r.length = 8) (hf : ∀ j, j < 8 → bat r j = f (s * 512 + j)) : splice (putTo f d (512 * s)) (s * 512) r = putTo f d (512 * (s + 1)) := by
  have hl := putTo_length f d (512 * s)
  have hl2 := splice_length (putTo f d (512 * s)) r (s * 512) (by omega)
  refine bat_ext (by rw [hl2, putTo_length, putTo_length]) fun k hk => ?_
  rw [hl2, hl, hd] at hk
  rw [bat_splice _ _ _ _ (by omega), bat_putTo _ _ _ _ (by omega), bat_putTo _ _ _ _ (by omega), hr]
  by_cases h : s * 512 ≤ k ∧ k < s * 512 + 8
  · rw [if_pos h, if_pos (by omega), hf _ (by omega)]
    congr 1
    omega
  · rw [if_neg h]
    by_cases h2 : k % 512 < 8 ∧ k < 512 * s
    · rw [if_pos h2, if_pos (by omega)]
    · rw [if_neg h2, if_neg (by omega)]
theorem putTo_set (f : Nat → UInt8) (d : List UInt8) (k : Nat) (hk : k < d.length) (h : k % 512 < 8) : (putTo f d k).set k (f k) = putTo f d (k + 1) := by
  refine bat_ext (by simp [putTo]) fun j hj => ?_
  simp only [List.length_set, putTo_length] at hj
  rw [bat_set _ _ _ _ (by rw [putTo_length]; exact hk), bat_putTo _ _ _ _ hj, bat_putTo _ _ _ _ hj]
  by_cases e : k = j
  · subst e
    rw [if_pos rfl, if_pos ⟨h, by omega⟩]
  · rw [if_neg e]
    by_cases h2 : j % 512 < 8 ∧ j < k
    · rw [if_pos h2, if_pos (by omega)]
    · rw [if_neg h2, if_neg (by omega)]
theorem putTo_skip (f : Nat → UInt8) (d : List UInt8) (k : Nat) (h : ¬ k % 512 < 8) : putTo f d (k + 1) = putTo f d k := by
  refine bat_ext (by simp [putTo]) fun j hj => ?_
  rw [putTo_length] at hj
  rw [bat_putTo _ _ _ _ hj, bat_putTo _ _ _ _ hj]
  by_cases h2 : j % 512 < 8 ∧ j < k
  · rw [if_pos h2, if_pos (by omega)]
  · have h4 : ¬ (j % 512 < 8 ∧ j < k + 1) := by
      rintro ⟨h3, h5⟩
      have : j ≠ k := by
        rintro rfl
        exact h h3
      exact h2 ⟨h3, by omega⟩
    rw [if_neg h2, if_neg h4]
/-- A block with a stamp in each sector. -/
def markB (m d : List UInt8) : List UInt8 := putTo (fun k => bat m (k % 512)) d 4096
/-- A block with what stamps hid. -/
def shownB (h d : List UInt8) : List UInt8 := putTo (fun k => bat h (k / 512 * 8 + k % 512)) d 4096
/-- What stamps hide, of so many sectors. -/
def hidTo (d : List UInt8) (s : Nat) : List UInt8 := (List.range (8 * s)).map fun j => bat d (j / 8 * 512 + j % 8)
def hidB (d : List UInt8) : List UInt8 := hidTo d 8
theorem hidTo_length (d : List UInt8) (s : Nat) : (hidTo d s).length = 8 * s := by simp [hidTo]
theorem hidB_length (d : List UInt8) : (hidB d).length = 64 := hidTo_length d 8
theorem bat_hidTo (d : List UInt8) (s j : Nat) (h : j < 8 * s) : bat (hidTo d s) j = bat d (j / 8 * 512 + j % 8) := by simp [hidTo, bat, h]
theorem hidTo_zero (d : List UInt8) : hidTo d 0 = [] := rfl
theorem hidTo_succ (d : List UInt8) (s : Nat) (hd : d.length = 4096) (hs : s < 8) : hidTo d s ++ (d.drop (s * 512)).take 8 = hidTo d (s + 1) := by
  have hl := hidTo_length d s
  have hp := part_length d (s * 512) 8 (by omega)
  refine bat_ext (by rw [List.length_append, hl, hp, hidTo_length]; omega) fun k hk => ?_
  rw [List.length_append, hl, hp] at hk
  rw [bat_hidTo _ _ _ (by omega)]
  by_cases h : k < 8 * s
  · rw [bat_left _ _ _ (by omega), bat_hidTo _ _ _ h]
  · rw [bat_right _ _ (k - 8 * s) _ (by omega), bat_part _ _ _ _ (by omega)]
    congr 1
    omega
/-- Parts between stamps. -/
def spreadTo (m inn : List UInt8) (n : Nat) : List UInt8 := (List.range n).flatMap fun s => m ++ (inn.drop (s * 504)).take 504
def spreadB (m inn : List UInt8) : List UInt8 := spreadTo m inn 8
def gathTo (b : List UInt8) (n : Nat) : List UInt8 := (List.range n).flatMap fun s => (b.drop (s * 512 + 8)).take 504
def gathB (b : List UInt8) : List UInt8 := gathTo b 8
theorem spreadTo_succ (m inn : List UInt8) (n : Nat) : spreadTo m inn (n + 1) = spreadTo m inn n ++ m ++ (inn.drop (n * 504)).take 504 := by simp [spreadTo, List.range_succ]
theorem gathTo_succ (b : List UInt8) (n : Nat) : gathTo b (n + 1) = gathTo b n ++ (b.drop (n * 512 + 8)).take 504 := by simp [gathTo, List.range_succ]
theorem spreadTo_length (m inn : List UInt8) (hm : m.length = 8) (hi : inn.length = 4032) : ∀ n, n ≤ 8 → (spreadTo m inn n).length = 512 * n
  | 0, _ => rfl
  | n + 1, h => by
    rw [spreadTo_succ, List.length_append, List.length_append, spreadTo_length m inn hm hi n (by omega), hm, part_length _ _ _ (by omega)]
    omega
theorem gathTo_length (b : List UInt8) (hb : b.length = 4096) : ∀ n, n ≤ 8 → (gathTo b n).length = 504 * n
  | 0, _ => rfl
  | n + 1, h => by
    rw [gathTo_succ, List.length_append, gathTo_length b hb n (by omega), part_length _ _ _ (by omega)]
    omega
theorem bat_spreadTo (m inn : List UInt8) (hm : m.length = 8) (hi : inn.length = 4032) : ∀ n, n ≤ 8 → ∀ k, k < 512 * n → bat (spreadTo m inn n) k = if k % 512 < 8 then bat m (k % 512) else bat inn (k / 512 * 504 + (k % 512 - 8))
  | 0, _, k, h => absurd h (Nat.not_lt_zero _)
  | n + 1, hn, k, h => by
    have hl := spreadTo_length m inn hm hi n (by omega)
    have hp := part_length inn (n * 504) 504 (by omega)
    rw [spreadTo_succ]
    by_cases h1 : k < 512 * n
    · rw [bat_left _ _ _ (by rw [List.length_append]; omega), bat_left _ _ _ (by omega)]
      exact bat_spreadTo m inn hm hi n (by omega) k h1
    · by_cases h2 : k < 512 * n + 8
      · rw [bat_left _ _ _ (by rw [List.length_append]; omega), bat_right _ _ (k - 512 * n) _ (by omega), if_pos (by omega)]
        congr 1
        omega
      · rw [bat_right _ _ (k - 512 * n - 8) _ (by rw [List.length_append]; omega), bat_part _ _ _ _ (by omega), if_neg (by omega)]
        congr 1
        omega
theorem bat_gathTo (b : List UInt8) (hb : b.length = 4096) : ∀ n, n ≤ 8 → ∀ k, k < 504 * n → bat (gathTo b n) k = bat b (k / 504 * 512 + 8 + k % 504)
  | 0, _, k, h => absurd h (Nat.not_lt_zero _)
  | n + 1, hn, k, h => by
    have hl := gathTo_length b hb n (by omega)
    rw [gathTo_succ]
    by_cases h1 : k < 504 * n
    · rw [bat_left _ _ _ (by omega)]
      exact bat_gathTo b hb n (by omega) k h1
    · rw [bat_right _ _ (k - 504 * n) _ (by omega), bat_part _ _ _ _ (by omega)]
      congr 1
      omega
theorem spreadB_length {m inn : List UInt8} (hm : m.length = 8) (hi : inn.length = 4032) : (spreadB m inn).length = 4096 := spreadTo_length m inn hm hi 8 (by omega)
theorem gathB_length {b : List UInt8} (hb : b.length = 4096) : (gathB b).length = 4032 := gathTo_length b hb 8 (by omega)
theorem bat_spreadB {m inn : List UInt8} (hm : m.length = 8) (hi : inn.length = 4032) (k : Nat) (hk : k < 4096) : bat (spreadB m inn) k = if k % 512 < 8 then bat m (k % 512) else bat inn (k / 512 * 504 + (k % 512 - 8)) := bat_spreadTo m inn hm hi 8 (by omega) k hk
theorem bat_gathB {b : List UInt8} (hb : b.length = 4096) (k : Nat) (hk : k < 4032) : bat (gathB b) k = bat b (k / 504 * 512 + 8 + k % 504) := bat_gathTo b hb 8 (by omega) k hk
theorem gath_spread {m inn : List UInt8} (hm : m.length = 8) (hi : inn.length = 4032) : gathB (spreadB m inn) = inn := by
  have hl := spreadB_length hm hi
  refine bat_ext (by rw [gathB_length hl, hi]) fun k hk => ?_
  rw [gathB_length hl] at hk
  rw [bat_gathB hl k hk, bat_spreadB hm hi _ (by omega), if_neg (by omega)]
  congr 1
  omega
/-- Does each sector bear the stamp? -/
def stampedB (m b : List UInt8) : Prop := b.length = 4096 ∧ ∀ k, k < 4096 → k % 512 < 8 → bat b k = bat m (k % 512)
instance (m b : List UInt8) : Decidable (stampedB m b) := by
  unfold stampedB
  have : (∀ k, k < 4096 → k % 512 < 8 → bat b k = bat m (k % 512)) ↔ ∀ k ∈ List.range 4096, k % 512 < 8 → bat b k = bat m (k % 512) := by simp
  rw [this]
  infer_instance
theorem stamped_spread {m inn : List UInt8} (hm : m.length = 8) (hi : inn.length = 4032) : stampedB m (spreadB m inn) :=
  ⟨spreadB_length hm hi, fun k hk h => by rw [bat_spreadB hm hi k hk, if_pos h]⟩
theorem spread_gath {m b : List UInt8} (hm : m.length = 8) (h : stampedB m b) : spreadB m (gathB b) = b := by
  have hg := gathB_length h.1
  refine bat_ext (by rw [spreadB_length hm hg, h.1]) fun k hk => ?_
  rw [spreadB_length hm hg] at hk
  rw [bat_spreadB hm hg k hk]
  split
  · next h2 => exact (h.2 k hk h2).symm
  · next h2 =>
    rw [bat_gathB h.1 _ (by omega)]
    congr 1
    omega
theorem markB_length (m d : List UInt8) : (markB m d).length = d.length := putTo_length _ _ _
theorem shownB_length (h d : List UInt8) : (shownB h d).length = d.length := putTo_length _ _ _
theorem bat_markB {m d : List UInt8} (hd : d.length = 4096) (k : Nat) (hk : k < 4096) : bat (markB m d) k = if k % 512 < 8 then bat m (k % 512) else bat d k := by
  unfold markB
  rw [bat_putTo _ _ _ _ (by omega)]
  by_cases h : k % 512 < 8
  · rw [if_pos ⟨h, hk⟩, if_pos h]
  · rw [if_neg (fun e => h e.1), if_neg h]
theorem bat_shownB {h d : List UInt8} (hd : d.length = 4096) (k : Nat) (hk : k < 4096) : bat (shownB h d) k = if k % 512 < 8 then bat h (k / 512 * 8 + k % 512) else bat d k := by
  unfold shownB
  rw [bat_putTo _ _ _ _ (by omega)]
  by_cases h : k % 512 < 8
  · rw [if_pos ⟨h, hk⟩, if_pos h]
  · rw [if_neg (fun e => h e.1), if_neg h]
theorem stamped_mark {m d : List UInt8} (hd : d.length = 4096) : stampedB m (markB m d) := ⟨by rw [markB_length]; exact hd, fun k hk h => by rw [bat_markB hd k hk, if_pos h]⟩
theorem shown_mark {m d : List UInt8} (hd : d.length = 4096) : shownB (hidB d) (markB m d) = d := by
  have hl := markB_length m d
  refine bat_ext (by rw [shownB_length, hl]) fun k hk => ?_
  rw [shownB_length, hl, hd] at hk
  rw [bat_shownB (by rw [hl]; exact hd) k hk]
  split
  · next h =>
    unfold hidB
    rw [bat_hidTo _ _ _ (by omega)]
    congr 1
    omega
  · next h => rw [bat_markB hd k hk, if_neg h]
theorem mark_shown {m h b : List UInt8} (hb : stampedB m b) : markB m (shownB h b) = b := by
  have hl : (shownB h b).length = 4096 := by rw [shownB_length]; exact hb.1
  refine bat_ext (by rw [markB_length, hl, hb.1]) fun k hk => ?_
  rw [markB_length, hl] at hk
  rw [bat_markB hl k hk]
  split
  · next h2 => exact (hb.2 k hk h2).symm
  · next h2 => rw [bat_shownB hb.1 k hk, if_neg h2]
theorem hid_shown {h b : List UInt8} (hb : b.length = 4096) (hh : h.length = 64) : hidB (shownB h b) = h := by
  refine bat_ext (by rw [hidB_length, hh]) fun k hk => ?_
  rw [hidB_length] at hk
  unfold hidB
  rw [bat_hidTo _ _ _ (by omega), bat_shownB hb _ (by omega), if_pos (by omega)]
  congr 1
  omega
end Go.Proofs.Ytknhfaplddgnlaa
