/- New, and Load of what is none. -/
import Derived.Test.YtddejjmebokgiaaDkL
namespace Go.Proofs.Ytddejjmebokgiaa
open Go.RowKit
variable {Q : Nat → Prop}
set_option maxHeartbeats 3200000
set_option maxRecDepth 100000
set_option linter.unusedVariables false
set_option linter.unusedSimpArgs false

theorem Load_bad (w : World) (a : Option Addr) (N c : Nat) (hN : N ≤ 9223372036854775807) (hbad : N / 4096 < 1 ∨ 512 < N / 4096 ∨ N % 4096 ≠ 0) :
    Calls Try.prog 22 #[.slice a N c] w fun e w' => e = .returned (.tuple #[.pointer none, .int .i64 2]) ∧ w' = w := by
  have hq : Int.tdiv (N : Int) 4096 = ((N / 4096 : Nat) : Int) := by rw [Int.tdiv_eq_ediv_of_nonneg (by omega)]; rfl
  have hq2 : Int.tmod (N : Int) 4096 = ((N % 4096 : Nat) : Int) := by rw [Int.tmod_eq_emod_of_nonneg (by omega)]; rfl
  have hqm : N / 4096 ≤ 2251799813685247 := by omega
  generalize N / 4096 = q at *
  generalize N % 4096 = r at *
  by_cases h1 : q < 1
  · have hd1 : decide ((q : Int) < 1) = true := decide_eq_true (by omega)
    go_enter Try.func22, Try.ntmps22
    go_wp2
    refine bodyPost_ret (v := .tuple #[.pointer none, .int .i64 2]) (by simp [results, Try.results22, go_sem]) rfl ⟨rfl, rfl⟩
  · have hd1 : decide ((q : Int) < 1) = false := decide_eq_false (by omega)
    by_cases h2 : 512 < q
    · have hd2 : decide ((512 : Int) < (q : Int)) = true := decide_eq_true (by omega)
      go_enter Try.func22, Try.ntmps22
      go_wp2
      refine bodyPost_ret (v := .tuple #[.pointer none, .int .i64 2]) (by simp [results, Try.results22, go_sem]) rfl ⟨rfl, rfl⟩
    · have hd2 : decide ((512 : Int) < (q : Int)) = false := decide_eq_false (by omega)
      have hd3 : ((r : Int) != 0) = true := by simp; omega
      go_enter Try.func22, Try.ntmps22
      go_wp2
      refine bodyPost_ret (v := .tuple #[.pointer none, .int .i64 2]) (by simp [results, Try.results22, go_sem]) rfl ⟨rfl, rfl⟩
theorem chunks_zeros (m : Nat) : chunks (zeros (4096 * m)) m = List.replicate m (zeros 4096) := by
  apply List.ext_getElem (by simp [chunks])
  intro k h1 h2
  have hk : k < m := by simpa using h2
  simp only [chunks, List.getElem_map, List.getElem_range, List.getElem_replicate, zeros, List.drop_replicate, List.take_replicate]
  congr 1
  omega
def newDk (m : Nat) : Dk := mkDk (List.replicate m (zeros 4096))
theorem New_any (w : World) (m : Nat) (h1 : 1 ≤ m) (h2 : m ≤ 512) :
    Calls Try.prog 15 #[.int .i64 (m : Int)] w fun e w' => ∃ D S, e = .returned (.tuple #[ptr D, .int .i64 0]) ∧ IsDk (fun b => w.heap.size ≤ b) w.heap.size w' D S (newDk m) ∧ Below w.heap.size w w' := by
  have hmk := fun W => run_mkB (4096 * m) ((m : Int) * 4096) ((m : Int) * 4096) (by omega) (by omega) (by omega) W
  have hd1 : decide ((m : Int) < 1) = false := decide_eq_false (by omega)
  have hd2 : decide ((512 : Int) < (m : Int)) = false := decide_eq_false (by omega)
  have L := Load_any (w.alloc (.cells (madeCells #[.int .u8 0] (4096 * m)) 5)) w.heap.size 0 (4096 * m) (zeros (4096 * m)) m h1 h2 (zeros_length _) (RdB.made w _ rfl)
  rw [chunks_zeros] at L
  have HL := hid L
  clear L
  go_enter Try.func15, Try.ntmps15
  go_wp2_with fail
  refine HL.out.mono ?_
  rintro e w1 ⟨D, S, rfl, hI, hb⟩
  go_wp2
  unfold ptr
  refine bodyPost_ret (v := .tuple #[.pointer (some ⟨D, 0, none⟩), .int .i64 0]) (by simp [results, Try.results15, go_sem]) rfl ⟨D, S, rfl, (hI.mono (base' := w.heap.size) (by simp)).monoQ (fun b hb => Nat.le_trans (by simp) hb), ((Below.refl _ w).alloc (Nat.le_refl _) _).trans (hb.mono (by simp))⟩
theorem New_bad (w : World) (n : Int) (h : n < 1 ∨ 512 < n) :
    Calls Try.prog 15 #[.int .i64 n] w fun e w' => e = .returned (.tuple #[.pointer none, .int .i64 2]) ∧ w' = w := by
  by_cases h1 : n < 1
  · go_enter Try.func15, Try.ntmps15
    go_wp2
    refine bodyPost_ret (v := .tuple #[.pointer none, .int .i64 2]) (by simp [results, Try.results15, go_sem]) rfl ⟨rfl, rfl⟩
  · have h2 : 512 < n := by omega
    go_enter Try.func15, Try.ntmps15
    go_wp2
    refine bodyPost_ret (v := .tuple #[.pointer none, .int .i64 2]) (by simp [results, Try.results15, go_sem]) rfl ⟨rfl, rfl⟩
end Go.Proofs.Ytddejjmebokgiaa
