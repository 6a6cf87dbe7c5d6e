/- law06's filled, one, awake (printed by gen06n.py). -/
import Derived.Test.YtknhfaplddgnlaaRecX
namespace Go.Proofs.Ytknhfaplddgnlaa
open Go.RowKit
set_option maxHeartbeats 1000000
set_option maxRecDepth 100000
set_option linter.unusedVariables false
set_option linter.unusedSimpArgs false

def flB (b : UInt8) (k : Nat) : List UInt8 := List.replicate k b ++ zeros (4096 - k)
theorem flB_length (b : UInt8) (k : Nat) (h : k ≤ 4096) : (flB b k).length = 4096 := by
  simp only [flB, List.length_append, List.length_replicate, zeros_length]
  omega
theorem flB_set (b : UInt8) (k : Nat) (h : k < 4096) : (flB b k).set k b = flB b (k + 1) := by
  have e : zeros (4096 - k) = 0 :: zeros (4096 - (k + 1)) := by
    rw [show 4096 - k = (4096 - (k + 1)) + 1 by omega]
    rfl
  unfold flB
  rw [e, List.set_append_right _ _ (by simp)]
  simp [List.replicate_succ']
theorem filled_any (w : World) (b : UInt8) : Calls Try.prog 13 #[.int .u8 (b.toNat : Int)] w fun e w' => ∃ g, e = .returned (.slice (some ⟨g, 0, none⟩) 4096 4096) ∧ OwnB w.heap.size w' (some ⟨g, 0, none⟩) 4096 (List.replicate 4096 b) ∧ Below w.heap.size w w' := by
  have hmk := fun W => run_mkB 4096 4096 4096 rfl rfl (by omega) W
  have hz4 := fun (W : World) (hb : W.heap.size ≤ W.heap.size) => OwnB.made W 4096 hb (by omega)
  obtain ⟨Z, hZ⟩ : ∃ Z : Array Value, Z = madeCells #[.int .u8 0] 4096 := ⟨_, rfl⟩
  simp only [← hZ] at hmk hz4
  clear hZ
  have h0 := hid (hz4 w (Nat.le_refl _))
  have b0 : Below w.heap.size w (w.alloc (.cells Z 5)) := (Below.refl _ _).alloc (Nat.le_refl _) _
  have B0 := hid b0
  clear hz4 b0
  go_enter Try.func13, Try.ntmps13
  go_wp2_with fail
  go_loopw [4] (fun i wr => ∃ k : Nat, k ≤ 4096 ∧ i = .int .i64 k ∧ OwnB w.heap.size wr (some ⟨w.heap.size, 0, none⟩) 4096 (flB b k) ∧ Below w.heap.size w wr) (fun i _ => 4096 - (intOf i).toNat)
  case atStart => exact ⟨0, Nat.zero_le _, rfl, h0.out, B0.out⟩
  case round => as_aux_lemma =>
    obtain ⟨k, hk, rfl, ho, hb⟩ := hrel
    by_cases hlt : k < 4096
    · have hfl := flB_length b k hk
      obtain ⟨_, e, _, x0, xf⟩ := ho.at_ (by intro e; rw [e] at hfl; exact absurd hfl (by decide))
      have e := Option.some.inj e
      simp only [Addr.mk.injEq, and_true] at e
      subst e
      have x1 := x0 k (by omega)
      have xf1 := xf k
      have HS := hid (ho.store k b)
      have HF := hid (flB_set b k hlt)
      have HB := hid (hb.setCell (p := ⟨w.heap.size, k, none⟩) (Nat.le_refl _) (.int .u8 (b.toNat : Int)))
      clear x0 xf ho hb hfl
      go_wp2_with fail
      go_roundw
      case rel => exact ⟨k + 1, by omega, by go_num, by rw [← HF.out]; exact HS.out, HB.out⟩
      case measure => simp [intOf]; omega
    · obtain rfl : k = 4096 := by omega
      have HO : Hid (OwnB w.heap.size wr (some ⟨w.heap.size, 0, none⟩) 4096 (List.replicate 4096 b)) := hid (by
        have e : flB b 4096 = List.replicate 4096 b := by unfold flB; rw [show zeros (4096 - 4096) = [] from rfl, List.append_nil]
        rw [← e]
        exact ho)
      have HB := hid hb
      clear ho hb
      go_wp2
      go_ret
      exact ⟨w.heap.size, rfl, HO.out, HB.out⟩
/-- The chapter's group. -/
def oneD : List UInt8 := List.replicate 4096 97
def oneI : List Img := [(40, oneD)]
theorem one_any (w : World) : Calls Try.prog 8 #[] w fun e w' => ∃ g, e = .returned (.agg #[.int .i64 1, .int .i64 1, .slice (some ⟨g, 0, none⟩) 1 1]) ∧ RdG w' (some ⟨g, 0, none⟩) oneI ∧ Below w.heap.size w w' := by
  have hrow0 := heap_alloc_new w (.cells #[.int .i64 0, .int .i64 0, .slice none 0 0] 28)
  have hb0 : Below w.heap.size w (w.alloc (.cells #[.int .i64 0, .int .i64 0, .slice none 0 0] 28)) := (Below.refl _ _).alloc (Nat.le_refl _) _
  have FL := filled_any (w.alloc (.cells #[.int .i64 0, .int .i64 0, .slice none 0 0] 28)) 97
  have e97 : (((97 : UInt8).toNat : Nat) : Int) = 97 := rfl
  rw [e97] at FL
  clear e97
  go_enter Try.func8, Try.ntmps8
  go_wp2_with fail
  refine FL.mono ?_
  rintro e w1 ⟨g, rfl, ho, b1⟩
  clear FL
  have b2 : Below w1.heap.size w1 (w1.alloc (.cells #[.int .i64 40, .slice (some ⟨g, 0, none⟩) 4096 4096] 38)) := (Below.refl _ _).alloc (Nat.le_refl _) _
  have hR1 := (b1.block _ (heap_in hrow0)).trans hrow0
  have hR2 := (b2.block _ (heap_in hR1)).trans hR1
  have hB2 := (hb0.trans (b1.mono (by simp))).trans (b2.mono (hb0.trans (b1.mono (by simp))).size)
  have hI := heap_alloc_new w1 (.cells #[.int .i64 40, .slice (some ⟨g, 0, none⟩) 4096 4096] 38)
  have hs := set3 hR2 (.int .i64 1) (.int .i64 1) (.slice (some ⟨w1.heap.size, 0, none⟩) 1 1)
  have hwl : w.heap.size < w1.heap.size := heap_in hR1
  have hI2 := hs.2.row hI (show ¬ w1.heap.size = w.heap.size by omega)
  have ho2 := (ho.below b2).kpt hs.2 (show ¬ g = w.heap.size by have := ho.lt.1; simp at this; omega)
  obtain ⟨r0, r1, r2⟩ := cells3 hR2
  obtain ⟨v0, v1, v2⟩ := cells3 hs.1
  have f0 := frozen_of_row _ w.heap.size 0 _ _ hR2
  have f1 := frozen_of_row _ w.heap.size 1 _ _ hR2
  have f2 := frozen_of_row _ w.heap.size 2 _ _ hR2
  have HB := hid (belowK hB2 hs.2 (fun b hb => by omega) hB2.size)
  have HI := hid hI2; have HO := hid ho2
  clear hrow0 hb0 b1 b2 hR1 hR2 hB2 hI hs hwl hI2 ho2 ho
  go_wp2
  refine bodyPost_ret (v := .agg #[.int .i64 1, .int .i64 1, .slice (some ⟨w1.heap.size, 0, none⟩) 1 1]) ?_ rfl ⟨w1.heap.size, rfl, ?_, HB.out⟩
  · simp [results, Try.results8, go_sem, v0, v1, v2]
  · intro i x hx
    have hi : i = 0 := by
      have := (List.getElem?_eq_some_iff.1 hx).1
      simp [oneI] at this
      exact this
    subst hi
    simp only [oneI, List.getElem?_cons_zero, Option.some.injEq] at hx
    subst hx
    refine ⟨w1.heap.size, 0, some ⟨g, 0, none⟩, 4096, rfl, ?_, ?_, HO.out.rd, ?_⟩
    · rw [cell_of_row _ _ _ _ _ _ HI.out]
      rfl
    · rw [cell_of_row _ _ _ _ _ _ HI.out]
      simp [oneD]
    · simp [oneD]
theorem one_right : rightG ((1 : Nat) : Int) ((1 : Nat) : Int) oneI = true := by
  refine decide_eq_true ⟨by decide, by decide, by decide, by decide, by decide, by decide, fun x hx => ?_, by simp [oneI]⟩
  simp only [oneI, List.mem_singleton] at hx
  subst hx
  exact ⟨by decide, by decide, by simp [oneD]⟩
end Go.Proofs.Ytknhfaplddgnlaa
