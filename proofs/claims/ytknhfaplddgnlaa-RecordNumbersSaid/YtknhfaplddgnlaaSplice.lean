/- copy into a row of bytes of the call's own; slices.Clone of bytes. -/
import Derived.Test.YtknhfaplddgnlaaZeros
import Derived.Test.YtknhfaplddgnlaaApart2
import Derived.Lib.SliceRun
namespace Go.Proofs.Ytknhfaplddgnlaa
open Go.RowKit
set_option maxHeartbeats 3200000
set_option maxRecDepth 100000
set_option linter.unusedVariables false
set_option linter.unusedSimpArgs false

theorem OwnB.row {base g c : Nat} {w : World} {l : List UInt8} (h : OwnB base w (some ⟨g, 0, none⟩) c l) : ∃ cur : List Value, w.heap[g]? = some (.cells cur.toArray 5 (0, 0)) ∧ cur.length = c ∧ cur.take l.length = B8s l := by
  rcases h.2 with ⟨hv, _⟩ | ⟨g', cap, cur, hv, hb, hg, hn, hm, hs, ht⟩
  · simp at hv
  · simp only [Value.slice.injEq, Option.some.injEq, Addr.mk.injEq, and_true, true_and] at hv
    obtain ⟨rfl, rfl⟩ := hv
    exact ⟨cur.toList, hg, by simpa using hs, by simpa using ht⟩
theorem splice_take {α : Type} (cur : List α) (n off : Nat) (ys : List α) (h : off + ys.length ≤ n) (hn : n ≤ cur.length) : (splice cur off ys).take n = splice (cur.take n) off ys := by
  have e1 : (cur.take off).take n = cur.take off := by rw [List.take_take, Nat.min_eq_right (by omega)]
  have e2 : (cur.take n).take off = cur.take off := by rw [List.take_take, Nat.min_eq_left (by omega)]
  have e3 : (cur.take off).length = off := by rw [List.length_take]; omega
  unfold splice
  rw [List.take_append, e1, e2, e3, List.take_append, List.take_of_length_le (show ys.length ≤ n - off by omega), List.drop_take]
  congr 3
  omega
theorem B8s_splice (l r : List UInt8) (off : Nat) : B8s (splice l off r) = splice (B8s l) off (B8s r) := by simp [splice, B8s]
theorem splice_length {α : Type} (l r : List α) (off : Nat) (h : off + r.length ≤ l.length) : (splice l off r).length = l.length := by simp [splice]; omega
/-- Behind a copy into it. -/
theorem OwnB.copied {base g c off : Nat} {w w' : World} {l r : List UInt8} {cur : List Value} (h : OwnB base w (some ⟨g, 0, none⟩) c l) (hg : w.heap[g]? = some (.cells cur.toArray 5 (0, 0)))
    (hr : off + r.length ≤ l.length) (hg' : w'.heap[g]? = some (.cells (splice cur off (B8s r)).toArray 5 (0, 0))) : OwnB base w' (some ⟨g, 0, none⟩) c (splice l off r) := by
  rcases h.2 with ⟨hv, _⟩ | ⟨g', cap, cur', hv, hb, hg2, hn, hm, hs, ht⟩
  · simp at hv
  · simp only [Value.slice.injEq, Option.some.injEq, Addr.mk.injEq, and_true, true_and] at hv
    obtain ⟨rfl, rfl⟩ := hv
    rw [hg] at hg2
    simp only [Option.some.injEq, Obj.cells.injEq, and_true, true_and] at hg2
    subst hg2
    simp only [List.size_toArray, Nat.mul_one] at hs ht
    have hl : (splice l off r).length = l.length := splice_length _ _ _ hr
    refine ⟨by simp [B8s], .inr ⟨g, c, _, by rw [hl], hb, hg', by rw [hl]; exact hn, hm, ?_, ?_⟩⟩
    · simp only [List.size_toArray, Nat.mul_one]
      rw [splice_length _ _ _ (by rw [B8s_length]; omega)]
      exact hs
    · rw [hl, Nat.mul_one]
      rw [splice_take _ _ _ _ (by rw [B8s_length]; exact hr) (by omega), ht, B8s_splice]
theorem own_adr {base c : Nat} {w : World} {a : Option Addr} {l : List UInt8} (h : OwnB base w a c l) (hn : l ≠ []) : ∃ g, a = some ⟨g, 0, none⟩ ∧ base ≤ g ∧ g < w.heap.size := by
  obtain ⟨g, rfl, hb, _⟩ := h.at_ hn
  exact ⟨g, rfl, hb, h.lt.2⟩
theorem own_adr4 {base c : Nat} {w : World} {a : Option Addr} {l : List UInt8} (h : OwnB base w a c l) (hn : 0 < l.length) : ∃ g, a = some ⟨g, 0, none⟩ ∧ base ≤ g ∧ g < w.heap.size := own_adr h (by rintro rfl; simp at hn)
theorem own_empty (w : World) (t : TypeId) (size : Nat) : (w.alloc (.cells #[] t)).ownsRow w.heap.size t size (.slice (some ⟨w.heap.size, 0, none⟩) 0 0) 0 [] := by
  have h := World.ownsRow_lit (base := w.heap.size) (e := t) (size := size) w #[] 0 (Nat.le_refl _) (by simp) (by simp)
  simpa using h
theorem CloneB_any (w : World) (b off c N : Nat) (l : List UInt8) (hN : N = l.length) (hl : l.length ≤ 200000000000000) (hr : RdB w (some ⟨b, off, none⟩) l) :
    Calls Try.prog 49 #[.slice (some ⟨b, off, none⟩) N c] w fun e w' => ∃ A c', e = .returned (.slice A N c') ∧ OwnB w.heap.size w' A c' l ∧ Below w.heap.size w w' := by
  subst hN
  have ho : OwnB w.heap.size (w.alloc (.cells #[] 5)) (some ⟨w.heap.size, 0, none⟩) 0 [] := own_empty w _ 1
  have q := fun (w : World) (a : Option Addr) (n c n' c' : Nat) => Lib.run_eql_slice_nil (P := Try.prog) w 31 _ a n c n' c' Try.underlying31
  go_enter Try.func49, Try.ntmps49
  go_wp2_with (at_builtin; refine app_bytes rfl (.tmp 5) (.tmp 6) rfl w.heap.size (some ⟨w.heap.size, 0, none⟩) 0 0 [] rfl rfl ho (some ⟨b, off, none⟩) l.length c l rfl rfl (hr.alloc _) l.length (by simp) (by simpa using hl) w ((Below.refl _ w).alloc (Nat.le_refl _) _) (by simp) ?_; intro A1 c1 w2 ho2 hb2 _ _)
  go_ret
  exact ⟨A1, c1, rfl, by simpa using ho2, hb2⟩
end Go.Proofs.Ytknhfaplddgnlaa
