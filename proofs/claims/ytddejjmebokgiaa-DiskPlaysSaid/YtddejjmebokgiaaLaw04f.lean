/- A disk that is none: the walk of DiskNone. -/
import Derived.Test.YtddejjmebokgiaaLaw04e
namespace Go.Proofs.Ytddejjmebokgiaa
open Go.RowKit
set_option maxHeartbeats 3200000
set_option maxRecDepth 100000
set_option linter.unusedVariables false
set_option linter.unusedSimpArgs false

def NoneAt (w : World) (p : Option Addr) : Prop := p = none ∨ ∃ D, p = some ⟨D, 0, none⟩ ∧ w.heap[D]? = some (.cells #[.slice none 0 0, .slice none 0 0, .slice none 0 0, .int .i64 0, .bool false, .bool false, .int .i64 0, .bool false, .int .i64 0] 74 (0, 0))
theorem none_at {w : World} {p : Option Addr} (h : NoneAt w p) : Calls Try.prog 37 #[.pointer p] w fun e w' => e = .returned (.bool true) ∧ w = w' := by
  rcases h with rfl | ⟨D, rfl, h⟩
  · exact none_nil w
  · exact (none_row w D 0 0 none _ _ _ _ _ _ _ _ _ h).mono (fun e w' h => h)
theorem wrong_none {w : World} {p : Option Addr} (h : NoneAt w p) (n : Int) : Calls Try.prog 40 #[.pointer p, .int .i64 n] w fun e w' => e = .returned (.int .i64 1) ∧ w = w' := by
  have hn := none_at h
  clear h
  go_enter Try.func40, Try.ntmps40
  go_wp2_with fail
  refine hn.mono ?_
  rintro e w' ⟨rfl, rfl⟩
  go_wp2
  go_ret
  exact ⟨rfl, rfl⟩
theorem Read_none {w : World} {p : Option Addr} (h : NoneAt w p) (n : Int) : Calls Try.prog 12 #[.pointer p, .int .i64 n] w fun e w' => e = .returned (.tuple #[.slice none 0 0, .int .i64 1]) ∧ w = w' := by
  have hn := wrong_none h n
  clear h
  go_enter Try.func12, Try.ntmps12
  go_wp2_with fail
  refine hn.mono ?_
  rintro e w' ⟨rfl, rfl⟩
  go_wp2
  refine bodyPost_ret (v := .tuple #[.slice none 0 0, .int .i64 1]) (by simp [results, Try.results12, go_sem]) rfl ⟨rfl, rfl⟩
theorem Write_none {w : World} {p : Option Addr} (h : NoneAt w p) (n : Int) (a : Option Addr) (m c : Nat) : Calls Try.prog 17 #[.pointer p, .int .i64 n, .slice a m c] w fun e w' => e = .returned (.int .i64 1) ∧ w = w' := by
  have hn := wrong_none h n
  clear h
  go_enter Try.func17, Try.ntmps17
  go_wp2_with fail
  refine hn.mono ?_
  rintro e w' ⟨rfl, rfl⟩
  go_wp2
  go_ret
  exact ⟨rfl, rfl⟩
theorem Flush_none {w : World} {p : Option Addr} (h : NoneAt w p) : Calls Try.prog 26 #[.pointer p] w fun e w' => e = .returned (.int .i64 1) ∧ w = w' := by
  have hn := none_at h
  clear h
  go_enter Try.func26, Try.ntmps26
  go_wp2_with fail
  refine hn.mono ?_
  rintro e w' ⟨rfl, rfl⟩
  go_wp2
  go_ret
  exact ⟨rfl, rfl⟩
theorem Arm_none {w : World} {p : Option Addr} (h : NoneAt w p) (n : Int) : Calls Try.prog 30 #[.pointer p, .int .i64 n] w fun e w' => e = .returned (.int .i64 1) ∧ w = w' := by
  have hn := none_at h
  clear h
  go_enter Try.func30, Try.ntmps30
  go_wp2_with fail
  refine hn.mono ?_
  rintro e w' ⟨rfl, rfl⟩
  go_wp2
  go_ret
  exact ⟨rfl, rfl⟩
theorem Fail_none {w : World} {p : Option Addr} (h : NoneAt w p) (n : Int) : Calls Try.prog 31 #[.pointer p, .int .i64 n] w fun e w' => e = .returned (.int .i64 1) ∧ w = w' := by
  have hn := none_at h
  clear h
  go_enter Try.func31, Try.ntmps31
  go_wp2_with fail
  refine hn.mono ?_
  rintro e w' ⟨rfl, rfl⟩
  go_wp2
  go_ret
  exact ⟨rfl, rfl⟩
theorem Crash_none {w : World} {p : Option Addr} (h : NoneAt w p) (a : Option Addr) (m c : Nat) (n s : Int) : Calls Try.prog 11 #[.pointer p, .slice a m c, .int .i64 n, .int .u8 s] w fun e w' => e = .returned (.int .i64 1) ∧ w = w' := by
  have hn := none_at h
  clear h
  go_enter Try.func11, Try.ntmps11
  go_wp2_with fail
  refine hn.mono ?_
  rintro e w' ⟨rfl, rfl⟩
  go_wp2
  go_ret
  exact ⟨rfl, rfl⟩
theorem Size_none {w : World} {p : Option Addr} (h : NoneAt w p) : Calls Try.prog 23 #[.pointer p] w fun e w' => e = .returned (.int .i64 0) ∧ w = w' := by
  have hn := none_at h
  clear h
  go_enter Try.func23, Try.ntmps23
  go_wp2_with fail
  refine hn.mono ?_
  rintro e w' ⟨rfl, rfl⟩
  go_wp2
  go_ret
  exact ⟨rfl, rfl⟩
theorem Writes_none {w : World} {p : Option Addr} (h : NoneAt w p) : Calls Try.prog 28 #[.pointer p] w fun e w' => e = .returned (.int .i64 0) ∧ w = w' := by
  have hn := none_at h
  clear h
  go_enter Try.func28, Try.ntmps28
  go_wp2_with fail
  refine hn.mono ?_
  rintro e w' ⟨rfl, rfl⟩
  go_wp2
  go_ret
  exact ⟨rfl, rfl⟩
theorem Pending_none {w : World} {p : Option Addr} (h : NoneAt w p) : Calls Try.prog 25 #[.pointer p] w fun e w' => e = .returned (.slice none 0 0) ∧ w = w' := by
  have hn := none_at h
  clear h
  go_enter Try.func25, Try.ntmps25
  go_wp2_with fail
  refine hn.mono ?_
  rintro e w' ⟨rfl, rfl⟩
  go_wp2
  go_ret
  exact ⟨rfl, rfl⟩
theorem Image_none {w : World} {p : Option Addr} (h : NoneAt w p) : Calls Try.prog 18 #[.pointer p] w fun e w' => e = .returned (.slice none 0 0) ∧ w = w' := by
  have hn := none_at h
  clear h
  go_enter Try.func18, Try.ntmps18
  go_wp2_with fail
  refine hn.mono ?_
  rintro e w' ⟨rfl, rfl⟩
  go_wp2
  go_ret
  exact ⟨rfl, rfl⟩
theorem Copy_none {w : World} {p : Option Addr} (h : NoneAt w p) : Calls Try.prog 24 #[.pointer p] w fun e w' => e = .returned (.pointer none) ∧ w = w' := by
  have hn := none_at h
  clear h
  go_enter Try.func24, Try.ntmps24
  go_wp2_with fail
  refine hn.mono ?_
  rintro e w' ⟨rfl, rfl⟩
  go_wp2
  go_ret
  exact ⟨rfl, rfl⟩
theorem DiskNone_any (w : World) (n : Int) (a : Option Addr) (m c : Nat) (k : Option Addr) (km kc : Nat) :
    Calls Try.prog 9 #[.int .i64 n, .slice a m c, .slice k km kc] w fun e w' => e = .returned (.bool true) ∧ Below w.heap.size w w' := by
  have AW := awake04_any
  go_enter Try.func9, Try.ntmps9
  go_wp2_with fail
  obtain ⟨v, hv⟩ : ∃ v, v = (w.alloc (.cells #[.slice none 0 0, .slice none 0 0, .slice none 0 0, .int .i64 0, .bool false, .bool false, .int .i64 0, .bool false, .int .i64 0] 74)).alloc (.cells #[.pointer none, .pointer (some ⟨w.heap.size, 0, none⟩)] 24) := ⟨_, rfl⟩
  have bv : Below w.heap.size w v := by rw [hv]; exact ((Below.refl _ w).alloc (Nat.le_refl _) _).alloc (by simp) _
  have h1 : v.heap[w.heap.size]? = some (.cells #[.slice none 0 0, .slice none 0 0, .slice none 0 0, .int .i64 0, .bool false, .bool false, .int .i64 0, .bool false, .int .i64 0] 74 (0, 0)) := by
    rw [hv]
    exact (Below.heap_alloc _ _ _ (by simp)).trans (heap_alloc_new w _)
  have h2 : v.heap[w.heap.size + 1]? = some (.cells #[.pointer none, .pointer (some ⟨w.heap.size, 0, none⟩)] 24 (0, 0)) := by
    rw [hv]
    exact row_two w _ _
  obtain ⟨p0, p1⟩ := two h2
  have N0 : NoneAt v none := .inl rfl
  have N1 : NoneAt v (some ⟨w.heap.size, 0, none⟩) := .inr ⟨_, rfl, h1⟩
  rw [← hv]
  clear hv h1 h2
  go_loopw [17] (fun i wr => (i = .int .i64 0 ∨ i = .int .i64 1 ∨ i = .int .i64 2) ∧ wr = v) (fun i _ => 2 - (intOf i).toNat)
  case atStart => exact ⟨.inl rfl, rfl⟩
  case round =>
    obtain ⟨hi, rfl⟩ := hrel
    rcases hi with rfl | rfl | rfl
    · have hN := N0
      go_wp2_with fail
      refine (Read_none hN n).mono ?_
      rintro e w' ⟨rfl, rfl⟩
      go_wp2_with fail
      refine (Write_none hN n a m c).mono ?_
      rintro e w' ⟨rfl, rfl⟩
      go_wp2_with fail
      refine (Flush_none hN).mono ?_
      rintro e w' ⟨rfl, rfl⟩
      go_wp2_with fail
      refine (Arm_none hN n).mono ?_
      rintro e w' ⟨rfl, rfl⟩
      go_wp2_with fail
      refine (Fail_none hN n).mono ?_
      rintro e w' ⟨rfl, rfl⟩
      go_wp2_with fail
      refine (Crash_none hN k km kc n 1).mono ?_
      rintro e w' ⟨rfl, rfl⟩
      go_wp2_with fail
      refine (Size_none hN).mono ?_
      rintro e w' ⟨rfl, rfl⟩
      go_wp2_with fail
      refine (Writes_none hN).mono ?_
      rintro e w' ⟨rfl, rfl⟩
      go_wp2_with fail
      refine (Pending_none hN).mono ?_
      rintro e w' ⟨rfl, rfl⟩
      go_wp2_with fail
      refine (Image_none hN).mono ?_
      rintro e w' ⟨rfl, rfl⟩
      go_wp2_with fail
      refine (Copy_none hN).mono ?_
      rintro e w' ⟨rfl, rfl⟩
      go_wp2_with fail
      exact ⟨⟨.inr (.inl rfl), trivial⟩, by simp [intOf]⟩
    · have hN := N1
      go_wp2_with fail
      refine (Read_none hN n).mono ?_
      rintro e w' ⟨rfl, rfl⟩
      go_wp2_with fail
      refine (Write_none hN n a m c).mono ?_
      rintro e w' ⟨rfl, rfl⟩
      go_wp2_with fail
      refine (Flush_none hN).mono ?_
      rintro e w' ⟨rfl, rfl⟩
      go_wp2_with fail
      refine (Arm_none hN n).mono ?_
      rintro e w' ⟨rfl, rfl⟩
      go_wp2_with fail
      refine (Fail_none hN n).mono ?_
      rintro e w' ⟨rfl, rfl⟩
      go_wp2_with fail
      refine (Crash_none hN k km kc n 1).mono ?_
      rintro e w' ⟨rfl, rfl⟩
      go_wp2_with fail
      refine (Size_none hN).mono ?_
      rintro e w' ⟨rfl, rfl⟩
      go_wp2_with fail
      refine (Writes_none hN).mono ?_
      rintro e w' ⟨rfl, rfl⟩
      go_wp2_with fail
      refine (Pending_none hN).mono ?_
      rintro e w' ⟨rfl, rfl⟩
      go_wp2_with fail
      refine (Image_none hN).mono ?_
      rintro e w' ⟨rfl, rfl⟩
      go_wp2_with fail
      refine (Copy_none hN).mono ?_
      rintro e w' ⟨rfl, rfl⟩
      go_wp2_with fail
      exact ⟨⟨.inr (.inr rfl), trivial⟩, by simp [intOf]⟩
    · go_wp2_with fail
      refine (AW _).mono ?_
      rintro e w2 ⟨rfl, b2⟩
      go_wp2
      go_ret
      exact ⟨rfl, bv.trans (b2.mono bv.size)⟩
end Go.Proofs.Ytddejjmebokgiaa
