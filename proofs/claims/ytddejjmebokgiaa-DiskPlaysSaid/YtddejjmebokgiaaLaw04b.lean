/- filled, mixed, has, Made. -/
import Derived.Test.YtddejjmebokgiaaLaw04a
namespace Go.Proofs.Ytddejjmebokgiaa
open Go.RowKit
variable {Q : Nat → Prop}
set_option maxHeartbeats 3200000
set_option maxRecDepth 100000
set_option linter.unusedVariables false
set_option linter.unusedSimpArgs false

def fillB (b : UInt8) : List UInt8 := List.replicate 4096 b
def mixTo (a b : UInt8) (s k : Nat) : List UInt8 := (List.range 4096).map fun j => if j < k ∧ sb s (j / 512) = true then b else a
theorem filled_any (w : World) (b : UInt8) :
    Calls Try.prog 27 #[.int .u8 (b.toNat : Int)] w fun e w' => ∃ g, e = .returned (.slice (some ⟨g, 0, none⟩) 4096 4096) ∧ OwnB w.heap.size w' (some ⟨g, 0, none⟩) 4096 (fillB b) ∧ Below w.heap.size w w' := by
  have hmk := fun W => run_mkB 4096 4096 4096 rfl rfl (by omega) W
  go_enter Try.func27, Try.ntmps27
  go_wp2_with fail
  go_loopw [4] (fun i wr => ∃ k : Nat, k ≤ 4096 ∧ i = .int .i64 k ∧ OwnB w.heap.size wr (some ⟨w.heap.size, 0, none⟩) 4096 (List.replicate k b ++ zeros (4096 - k)) ∧ Below w.heap.size w wr) (fun i _ => 4096 - (intOf i).toNat)
  case atStart => exact ⟨0, by omega, rfl, OwnB.made w 4096 (Nat.le_refl _) (by omega), (Below.refl _ w).alloc (Nat.le_refl _) _⟩
  case round =>
    obtain ⟨k, hk, rfl, ho, hb⟩ := hrel
    have hl : (List.replicate k b ++ zeros (4096 - k)).length = 4096 := by simp [zeros]; omega
    by_cases hlt : k < 4096
    · have fz := ho.free k
      obtain ⟨g', e, _, hc, _⟩ := ho.at_ (by intro e; rw [e] at hl; simp at hl)
      simp only [Option.some.injEq, Addr.mk.injEq, and_true] at e
      subst e
      have c0 := hc k (by rw [hl]; exact hlt)
      clear hc
      have st := ho.store k b
      have e1 : (List.replicate k b ++ zeros (4096 - k)).set k b = List.replicate (k + 1) b ++ zeros (4096 - (k + 1)) := by
        rw [List.set_append_right _ _ (by simp)]
        simp only [List.length_replicate, Nat.sub_self]
        rw [show 4096 - k = (4096 - (k + 1)) + 1 by omega, List.replicate_succ']
        simp [zeros, List.replicate_succ]
      rw [e1] at st
      have ST := hid st; have HL := hid hl; have HO := hid ho
      clear st hl e1 ho
      go_wp2_with fail
      exact ⟨⟨k + 1, by omega, by go_num, ST.out, hb.setCell (p := ⟨w.heap.size, k, none⟩) (Nat.le_refl _) _⟩, by simp [intOf]; omega⟩
    · obtain rfl : k = 4096 := by omega
      go_wp2
      go_ret
      exact ⟨w.heap.size, rfl, by simpa [fillB, zeros] using ho, hb⟩
theorem sb_i64 (s k : Nat) (hs : s < 256) : (bits .and .i64 ((s : Int) / 2 ^ k) 1 == 1) = sb s k := by
  have e : ((s : Int) / 2 ^ k) = ((s / 2 ^ k : Nat) : Int) := by simp
  have hlt : s / 2 ^ k < 256 := Nat.lt_of_le_of_lt (Nat.div_le_self _ _) hs
  rw [e]
  unfold sb
  generalize s / 2 ^ k = x at *
  have : ∀ x, x < 256 → (bits .and .i64 ((x : Nat) : Int) 1 == 1) = decide (x % 2 = 1) := by decide +kernel
  exact this x hlt
theorem mixTo_zero (a b : UInt8) (s : Nat) : mixTo a b s 0 = fillB a := by
  apply List.ext_getElem (by simp [mixTo, fillB])
  intro k h1 h2
  simp only [mixTo, fillB, List.getElem_replicate, List.getElem_map, Nat.not_lt_zero, false_and, if_false]
theorem mixTo_skip (a b : UInt8) (s k : Nat) (h : sb s (k / 512) = false) : mixTo a b s (k + 1) = mixTo a b s k := by
  unfold mixTo
  apply List.map_congr_left
  intro j hj
  by_cases e : j = k
  · subst e; simp [h]
  · have : (j < k + 1) ↔ (j < k) := by omega
    simp only [this]
theorem mixTo_take (a b : UInt8) (s k : Nat) (hk : k < 4096) (h : sb s (k / 512) = true) : mixTo a b s (k + 1) = (mixTo a b s k).set k b := by
  apply List.ext_getElem (by simp [mixTo])
  intro j h1 h2
  rw [List.getElem_set]
  by_cases e : k = j
  · subst e; simp [mixTo, h]
  · have : (j < k + 1) ↔ (j < k) := by omega
    simp [mixTo, e, this]
theorem mixed_any (w : World) (a b : UInt8) (s : Nat) (hs : s < 256) :
    Calls Try.prog 29 #[.int .u8 (a.toNat : Int), .int .u8 (b.toNat : Int), .int .i64 (s : Int)] w fun e w' => ∃ g, e = .returned (.slice (some ⟨g, 0, none⟩) 4096 4096) ∧ OwnB w.heap.size w' (some ⟨g, 0, none⟩) 4096 (mixTo a b s 4096) ∧ Below w.heap.size w w' := by
  go_enter Try.func29, Try.ntmps29
  go_wp2_with fail
  refine (filled_any _ a).mono ?_
  rintro e w1 ⟨g, rfl, g1, b1⟩
  go_wp2_with fail
  go_loopw [8] (fun i wr => ∃ k : Nat, k ≤ 4096 ∧ i = .int .i64 k ∧ OwnB w.heap.size wr (some ⟨g, 0, none⟩) 4096 (mixTo a b s k) ∧ Below w.heap.size w wr) (fun i _ => 4096 - (intOf i).toNat)
  case atStart => exact ⟨0, by omega, rfl, by rw [mixTo_zero]; exact g1, b1⟩
  case round =>
    obtain ⟨k, hk, rfl, ho, hb⟩ := hrel
    have hl : (mixTo a b s k).length = 4096 := by simp [mixTo]
    by_cases hlt : k < 4096
    · have hbit := sb_i64 s (k / 512) hs
      have fz := ho.free k
      obtain ⟨g', e, hgb, hc, _⟩ := ho.at_ (by intro e; rw [e] at hl; simp at hl)
      simp only [Option.some.injEq, Addr.mk.injEq, and_true] at e
      subst e
      have c0 := hc k (by rw [hl]; exact hlt)
      have st := ho.store k b
      rcases hq : sb s (k / 512)
      · rw [hq] at hbit
        have e1 := mixTo_skip a b s k hq
        have HQ := hid e1; have HO := hid ho
        clear hc hq e1 ho st hl
        go_wp2_with fail
        exact ⟨⟨k + 1, by omega, by go_num, by rw [HQ.out]; exact HO.out, hb⟩, by simp [intOf]; omega⟩
      · rw [hq] at hbit
        have e1 := mixTo_take a b s k hlt hq
        rw [← e1] at st
        have ST := hid st
        clear hc hq e1 ho st hl
        go_wp2_with fail
        exact ⟨⟨k + 1, by omega, by go_num, ST.out, hb.setCell (p := ⟨g, k, none⟩) hgb _⟩, by simp [intOf]; omega⟩
    · obtain rfl : k = 4096 := by omega
      go_wp2
      go_ret
      exact ⟨g, rfl, ho, hb⟩
def Dk.hasB (d : Dk) (n : Int) (l : List UInt8) : Bool := decide (d.rdE n = 0) && (d.rdB n == l)
theorem has_is {base : Nat} (w : World) (D : Nat) {S : Nat → Prop} {d : Dk} (h : IsDk Q base w D S d) (n : Int) (a : Option Addr) (c N : Nat) (l : List UInt8) (hN : N = l.length) (hr : RdB w a l) :
    Calls Try.prog 20 #[ptr D, .int .i64 n, .slice a N c] w fun e w' => e = .returned (.bool (d.hasB n l)) ∧ Below w.heap.size w w' := by
  subst hN
  have R := Read_is w D h n
  unfold ptr at *
  unfold Dk.hasB
  generalize d.rdE n = E at *
  generalize d.rdB n = B at *
  clear h
  by_cases hE : E = 0
  · subst hE
    go_enter Try.func20, Try.ntmps20
    go_wp2_with fail
    refine R.mono ?_
    rintro e w1 ⟨A1, c1, rfl, g1, b1⟩
    have hr1 := hr.below b1
    have SB := SameBytes_any w1 A1 a c1 c B.length l.length B l rfl rfl g1.rd hr1
    go_wp2_with fail
    refine SB.mono ?_
    rintro e w2 ⟨rfl, rfl⟩
    go_wp2
    go_ret
    exact ⟨by simp, b1⟩
  · go_enter Try.func20, Try.ntmps20
    go_wp2_with fail
    refine R.mono ?_
    rintro e w1 ⟨A1, c1, rfl, g1, b1⟩
    go_wp2
    go_ret
    exact ⟨by simp [hE], b1⟩
end Go.Proofs.Ytddejjmebokgiaa
