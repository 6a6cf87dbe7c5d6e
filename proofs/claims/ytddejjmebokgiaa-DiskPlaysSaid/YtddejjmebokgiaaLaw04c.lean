/- Made. -/
import Derived.Test.YtddejjmebokgiaaLaw04b
namespace Go.Proofs.Ytddejjmebokgiaa
open Go.RowKit
set_option maxHeartbeats 3200000
set_option maxRecDepth 100000
set_option linter.unusedVariables false
set_option linter.unusedSimpArgs false
/-- The number behind k steps. -/
def mX (s : Int) : Nat → Int
  | 0 => IntKind.u64.wrap (IntKind.u64.wrap (IntKind.u64.wrap s * 2862933555777941757) + 3037000493)
  | k + 1 => if k % 8 = 0 then IntKind.u64.wrap (IntKind.u64.wrap (mX s k * 2862933555777941757) + 3037000493) else mX s k
def mB (s : Int) (k : Nat) : UInt8 := UInt8.ofNat (mX s (k + 1) / 1099511627776 % 256).toNat
def madeB (s : Int) (n : Nat) : List UInt8 := (List.range n).map (mB s)
theorem madeB_length (s : Int) (n : Nat) : (madeB s n).length = n := by simp [madeB]
theorem mB_wrap (s : Int) (k : Nat) : mX s (k + 1) / 1099511627776 % 256 = ((mB s k).toNat : Int) := by
  unfold mB
  generalize mX s (k + 1) / 1099511627776 = x
  have h2 : (x % 256).toNat < 256 := by omega
  rw [UInt8.toNat_ofNat_of_lt' h2]
  omega
theorem Made_any (w : World) (s : Int) (n : Nat) (hn : n ≤ 100000) :
    Calls Try.prog 16 #[.int .i64 s, .int .i64 (n : Int)] w fun e w' => ∃ g, e = .returned (.slice (some ⟨g, 0, none⟩) n n) ∧ OwnB w.heap.size w' (some ⟨g, 0, none⟩) n (madeB s n) ∧ Below w.heap.size w w' := by
  have hmk := fun W => run_mkB n (n : Int) (n : Int) rfl rfl (by omega) W
  go_enter Try.func16, Try.ntmps16
  go_wp2_with fail
  go_loopw [6, 7] (fun x i wr => ∃ k : Nat, k ≤ n ∧ i = .int .i64 k ∧ x = .int .u64 (mX s k) ∧ OwnB w.heap.size wr (some ⟨w.heap.size, 0, none⟩) n (madeB s k ++ zeros (n - k)) ∧ Below w.heap.size w wr) (fun _ i _ => n - (intOf i).toNat)
  case atStart => exact ⟨0, by omega, rfl, rfl, OwnB.made w n (Nat.le_refl _) (by omega), (Below.refl _ w).alloc (Nat.le_refl _) _⟩
  case round =>
    obtain ⟨k, hk, rfl, rfl, ho, hb⟩ := hrel
    have hl : (madeB s k ++ zeros (n - k)).length = n := by simp [zeros, madeB_length]; omega
    by_cases hlt : k < n
    · have fz := ho.free k
      obtain ⟨g', e, _, hc, _⟩ := ho.at_ (by intro e; rw [e] at hl; simp at hl; omega)
      simp only [Option.some.injEq, Addr.mk.injEq, and_true] at e
      subst e
      have c0 := hc k (by rw [hl]; exact hlt)
      clear hc
      have st := ho.store k (mB s k)
      have e1 : (madeB s k ++ zeros (n - k)).set k (mB s k) = madeB s (k + 1) ++ zeros (n - (k + 1)) := by
        rw [List.set_append_right _ _ (by rw [madeB_length]; exact Nat.le_refl _), madeB_length, Nat.sub_self, show n - k = (n - (k + 1)) + 1 by omega]
        simp [zeros, List.replicate_succ, madeB, List.range_succ]
      rw [e1] at st
      have ST := hid st; have HW := hid (mB_wrap s k)
      have hmx : mX s (k + 1) = if k % 8 = 0 then IntKind.u64.wrap (IntKind.u64.wrap (mX s k * 2862933555777941757) + 3037000493) else mX s k := rfl
      by_cases h8 : k % 8 = 0
      · rw [if_pos h8] at hmx
        have HX := hid hmx
        have hd : (Int.tmod (k : Int) 8 == 0) = true := by
          rw [Int.tmod_eq_emod_of_nonneg (by omega)]; simp; omega
        clear st hl e1 ho hmx
        go_wp2_with fail
        rw [← HX.out, HW.out]
        exact ⟨⟨k + 1, by omega, by go_num, rfl, ST.out, hb.setCell (p := ⟨w.heap.size, k, none⟩) (Nat.le_refl _) _⟩, by simp [intOf]; omega⟩
      · rw [if_neg h8] at hmx
        have HX := hid hmx
        have hd : (Int.tmod (k : Int) 8 == 0) = false := by
          rw [Int.tmod_eq_emod_of_nonneg (by omega)]; simp; omega
        clear st hl e1 ho hmx
        go_wp2_with fail
        rw [← HX.out, HW.out]
        exact ⟨⟨k + 1, by omega, by go_num, rfl, ST.out, hb.setCell (p := ⟨w.heap.size, k, none⟩) (Nat.le_refl _) _⟩, by simp [intOf]; omega⟩
    · obtain rfl : k = n := by omega
      go_wp2
      go_ret
      exact ⟨w.heap.size, rfl, by simpa [zeros] using ho, hb⟩
end Go.Proofs.Ytddejjmebokgiaa
