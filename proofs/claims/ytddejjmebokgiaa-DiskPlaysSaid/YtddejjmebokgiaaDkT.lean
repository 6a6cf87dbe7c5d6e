/- torn: a block of which some sectors are another one's. -/
import Derived.Test.YtddejjmebokgiaaDkG
namespace Go.Proofs.Ytddejjmebokgiaa
open Go.RowKit
variable {Q : Nat → Prop}
set_option maxHeartbeats 3200000
set_option maxRecDepth 100000
set_option linter.unusedVariables false
set_option linter.unusedSimpArgs false

theorem sector_any (w : World) (b off n c s : Nat) (hs : s < 8) (hn : n = 4096) (hc : 4096 ≤ c) (hcm : c ≤ 9223372036854775807) :
    Calls Try.prog 59 #[.slice (some ⟨b, off, none⟩) n c, .int .i64 (s : Int)] w fun e w' => e = .returned (.slice (some ⟨b, off + s * 512, none⟩) 512 512) ∧ w = w' := by
  subst hn
  have e : (s + 1) * 512 - s * 512 = 512 := by omega
  go_enter Try.func59, Try.ntmps59
  go_wp2
  rw [e]
  go_ret
  exact ⟨rfl, rfl⟩
/-- Is sector k of these? -/
def sb (s k : Nat) : Bool := decide (s / 2 ^ k % 2 = 1)
theorem sb_u8 (s k : Nat) (hs : s < 256) : (bits .and .u8 ((s : Int) / 2 ^ k) 1 == 1) = sb s k := by
  have e : ((s : Int) / 2 ^ k) = ((s / 2 ^ k : Nat) : Int) := by simp
  have hlt : s / 2 ^ k < 256 := Nat.lt_of_le_of_lt (Nat.div_le_self _ _) hs
  rw [e]
  unfold sb
  generalize s / 2 ^ k = x at *
  have := bits_mask .u8 8 (by decide) (fun n h0 h1 => IntWalk.u8_in n (by omega)) 1 (by decide) (x : Int) (by omega) (by omega)
  have e1 : bits .and .u8 (x : Int) 1 = ((x % 2 : Nat) : Int) := by simpa using this
  rw [e1]
  have h2 : x % 2 = 0 ∨ x % 2 = 1 := by omega
  rcases h2 with h | h <;> simp only [h] <;> decide
def tornTo (old fresh : List UInt8) (s j : Nat) : List UInt8 := (List.range 4096).map fun k => if k < 512 * j ∧ sb s (k / 512) = true then bat fresh k else bat old k
def tornB (old fresh : List UInt8) (s : Nat) : List UInt8 := tornTo old fresh s 8
theorem tornTo_length (old fresh : List UInt8) (s j : Nat) : (tornTo old fresh s j).length = 4096 := by simp [tornTo]
theorem tornB_length (old fresh : List UInt8) (s : Nat) : (tornB old fresh s).length = 4096 := tornTo_length _ _ _ _
theorem tornTo_zero (old fresh : List UInt8) (s : Nat) (h : old.length = 4096) : tornTo old fresh s 0 = old := by
  apply List.ext_getElem (by simp [tornTo, h])
  intro k h1 h2
  simp [tornTo, bat, h2]
theorem tornTo_skip (old fresh : List UInt8) (s j : Nat) (h : sb s j = false) : tornTo old fresh s (j + 1) = tornTo old fresh s j := by
  unfold tornTo
  apply List.map_congr_left
  intro k hk
  by_cases hkj : k / 512 = j
  · rw [hkj, h]; simp
  · have : (k < 512 * (j + 1)) ↔ (k < 512 * j) := by omega
    simp only [this]
theorem tornTo_take (old fresh : List UInt8) (s j : Nat) (hj : j < 8) (hf : fresh.length = 4096) (h : sb s j = true) : tornTo old fresh s (j + 1) = splice (tornTo old fresh s j) (j * 512) ((fresh.drop (j * 512)).take 512) := by
  apply List.ext_getElem
  · simp [splice, tornTo_length]; omega
  intro k h1 h2
  have hk : k < 4096 := by simpa [tornTo_length] using h1
  by_cases hlo : k < j * 512
  · have e : k < 512 * (j + 1) ∧ k < 512 * j := by omega
    simp [splice, tornTo, List.getElem_append, hlo, e.1, e.2]
    omega
  · by_cases hhi : k < j * 512 + 512
    · have e : k / 512 = j := by omega
      have e2 : k - min (j * 512) 4096 < min 512 (4096 - j * 512) := by omega
      have e3 : j * 512 + (k - min (j * 512) 4096) = k := by omega
      have e4 : ¬ k < min (j * 512) 4096 := by omega
      have e5 : k < 512 * (j + 1) := by omega
      simp [splice, tornTo, List.getElem_append, e, h, hf, e2, e3, e4, e5, bat, hk]
    · have e1 : ¬ k < min (j * 512) 4096 := by omega
      have e2 : ¬ k - min (j * 512) 4096 < min 512 (4096 - j * 512) := by omega
      have e3 : ¬ k < 512 * (j + 1) := by omega
      have e5 : ¬ k < 512 * j := by omega
      have e4 : j * 512 + min 512 (4096 - j * 512) + (k - min (j * 512) 4096 - min 512 (4096 - j * 512)) = k := by omega
      simp [splice, tornTo, List.getElem_append, hf, e1, e2, e3, e4, e5]
theorem OwnB.row {base g c : Nat} {w : World} {l : List UInt8} (h : OwnB base w (some ⟨g, 0, none⟩) c l) : ∃ cur : List Value, w.heap[g]? = some (.cells cur.toArray 5 (0, 0)) ∧ cur.length = c ∧ cur.take l.length = B8s l := by
  rcases h.2 with ⟨hv, _⟩ | ⟨g', cap, cur, hv, hb, hg, hn, hm, hs, ht⟩
  · simp at hv
  · simp only [Value.slice.injEq, Option.some.injEq, Addr.mk.injEq, and_true, true_and] at hv
    obtain ⟨rfl, rfl⟩ := hv
    exact ⟨cur.toList, hg, by simpa using hs, by simpa using ht⟩
theorem splice_take {α : Type} (cur : List α) (n off : Nat) (ys : List α) (h : off + ys.length ≤ n) (hn : n ≤ cur.length) : (splice cur off ys).take n = splice (cur.take n) off ys := by
  have e1 : (cur.take off).take n = cur.take off := by rw [List.take_take, Nat.min_eq_right (by omega)]
  have e2 : (cur.take n).take off = cur.take off := by rw [List.take_take, Nat.min_eq_left (by omega)]
  have e3 : (cur.take off).length = off := by rw [List.length_take]; omega
  unfold splice
  rw [List.take_append, e1, e2, e3, List.take_append, List.take_of_length_le (show ys.length ≤ n - off by omega), List.drop_take]
  congr 3
  omega
theorem B8s_splice (l r : List UInt8) (off : Nat) : B8s (splice l off r) = splice (B8s l) off (B8s r) := by simp [splice, B8s]
theorem splice_length {α : Type} (l r : List α) (off : Nat) (h : off + r.length ≤ l.length) : (splice l off r).length = l.length := by simp [splice]; omega
/-- Behind a copy into it. -/
theorem OwnB.copied {base g c off : Nat} {w w' : World} {l r : List UInt8} {cur : List Value} (h : OwnB base w (some ⟨g, 0, none⟩) c l) (hg : w.heap[g]? = some (.cells cur.toArray 5 (0, 0)))
    (hr : off + r.length ≤ l.length) (hg' : w'.heap[g]? = some (.cells (splice cur off (B8s r)).toArray 5 (0, 0))) : OwnB base w' (some ⟨g, 0, none⟩) c (splice l off r) := by
  rcases h.2 with ⟨hv, _⟩ | ⟨g', cap, cur', hv, hb, hg2, hn, hm, hs, ht⟩
  · simp at hv
  · simp only [Value.slice.injEq, Option.some.injEq, Addr.mk.injEq, and_true, true_and] at hv
    obtain ⟨rfl, rfl⟩ := hv
    rw [hg] at hg2
    simp only [Option.some.injEq, Obj.cells.injEq, and_true, true_and] at hg2
    subst hg2
    simp only [List.size_toArray, Nat.mul_one] at hs ht
    have hl : (splice l off r).length = l.length := splice_length _ _ _ hr
    refine ⟨by simp [B8s], .inr ⟨g, c, _, by rw [hl], hb, hg', by rw [hl]; exact hn, hm, ?_, ?_⟩⟩
    · simp only [List.size_toArray, Nat.mul_one]
      rw [splice_length _ _ _ (by rw [B8s_length]; omega)]
      exact hs
    · rw [hl, Nat.mul_one]
      rw [splice_take _ _ _ _ (by rw [B8s_length]; exact hr) (by omega), ht, B8s_splice]
theorem torn_any (w : World) (b1 o1 c1 b2 o2 c2 : Nat) (old fresh : List UInt8) (s : Nat) (h1 : old.length = 4096) (h2 : fresh.length = 4096) (r1 : RdB w (some ⟨b1, o1, none⟩) old) (r2 : RdB w (some ⟨b2, o2, none⟩) fresh) (hs : s < 256) (hc2 : 4096 ≤ c2) (hc2' : c2 ≤ 9223372036854775807) :
    Calls Try.prog 38 #[.slice (some ⟨b1, o1, none⟩) 4096 c1, .slice (some ⟨b2, o2, none⟩) 4096 c2, .int .u8 (s : Int)] w fun e w' => ∃ g c, e = .returned (.slice (some ⟨g, 0, none⟩) 4096 c) ∧ OwnB w.heap.size w' (some ⟨g, 0, none⟩) c (tornB old fresh s) ∧ Below w.heap.size w w' := by
  have C := fun w (hr : RdB w (some ⟨b1, o1, none⟩) old) => CloneB_any w b1 o1 c1 4096 old h1.symm (by omega) hr
  have H1 := hid h1; have H2 := hid h2
  clear h1 h2
  go_enter Try.func38, Try.ntmps38
  go_wp2_with fail
  refine (C _ r1).mono ?_
  rintro e w1 ⟨A1, c1', rfl, g1, b1⟩
  obtain ⟨g, rfl, hg1, hg2⟩ := own_adr g1 (by intro e; have := H1.out; rw [e] at this; simp at this)
  have hcap := g1.cap
  rw [H1.out] at hcap
  obtain ⟨hcap1, hcap2⟩ := hcap
  clear C
  go_wp2_with fail
  go_loopw [11] (fun i wr => ∃ k : Nat, k ≤ 8 ∧ i = .int .i64 k ∧ OwnB w.heap.size wr (some ⟨g, 0, none⟩) c1' (tornTo old fresh s k) ∧ Below w.heap.size w wr) (fun i _ => 8 - (intOf i).toNat)
  case atStart => exact ⟨0, by omega, rfl, by rw [tornTo_zero _ _ _ H1.out]; exact g1, b1⟩
  case round =>
    obtain ⟨k, hk, rfl, ho, hb⟩ := hrel
    by_cases hlt : k < 8
    · have hbit := sb_u8 s k hs
      rcases hq : sb s k
      · rw [hq] at hbit
        have HQ := hid hq; clear hq
        go_wp2_with fail
        exact ⟨⟨k + 1, by omega, by go_num, by rw [tornTo_skip _ _ _ _ HQ.out]; exact ho, hb⟩, by simp [intOf]; omega⟩
      · rw [hq] at hbit
        have HQ := hid hq; clear hq
        have S1 := sector_any wr g 0 4096 c1' k hlt rfl hcap1 hcap2
        have S2 := sector_any wr b2 o2 4096 c2 k hlt rfl hc2 hc2'
        rw [Nat.zero_add] at S1
        obtain ⟨cur, hcur, hcl, hct⟩ := ho.row
        have hr2 := (r2.below hb).part (k * 512) 512
        have hrl : ((fresh.drop (k * 512)).take 512).length = 512 := by simp [H2.out]; omega
        have htl := tornTo_length old fresh s k
        have HO := hid ho; have HCUR := hid hcur; have HTL := hid htl; have HRL := hid hrl
        clear ho htl hct
        go_wp2_with (first
          | (go_at_call 59; (with_reducible refine S1.mono ?_); rintro e w' ⟨rfl, rfl⟩)
          | (go_at_call 59; (with_reducible refine S2.mono ?_); rintro e w' ⟨rfl, rfl⟩)
          | (with_reducible refine copy_bytes rfl (.tmp 21) (.tmp 24) rfl g (k * 512) 512 512 rfl (some ⟨b2, o2 + k * 512, none⟩) 512 512 ((fresh.drop (k * 512)).take 512) rfl HRL.out.symm hr2 cur HCUR.out (by rw [hcl]; omega) w.heap.size w hb hg1 ?_; intro w3 h3 b3 _ _))
        go_roundw
        case rel =>
          have ht : ((fresh.drop (k * 512)).take 512).take 512 = (fresh.drop (k * 512)).take 512 := List.take_of_length_le (by rw [HRL.out]; exact Nat.le_refl _)
          rw [ht] at h3
          refine ⟨k + 1, by omega, by go_num, ?_, b3⟩
          rw [tornTo_take _ _ _ _ hlt H2.out HQ.out]
          exact OwnB.copied HO.out HCUR.out (by rw [HRL.out, HTL.out]; omega) h3.out
        case measure => simp [intOf]; omega
    · obtain rfl : k = 8 := by omega
      go_wp2
      go_ret
      exact ⟨g, c1', rfl, ho, hb⟩
end Go.Proofs.Ytddejjmebokgiaa
