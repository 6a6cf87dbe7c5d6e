/- slices.Chunk over bytes: what it hands out. -/
import Derived.Test.YtknhfaplddgnlaaEach
import Derived.RangeFuncLeaves
import Derived.WalkKit
import Derived.OwnWalkIn
import Derived.TacticsInMore
import Derived.LoopNIn
import Derived.LoopIn
import Derived.Shelf.RegionOpen
import Derived.Deep.QuietTactic
import Derived.BigQuiet
import Derived.Sort.QuietIn
namespace Go.Proofs.Ytknhfaplddgnlaa
open Go.RowKit Go.Shelf
attribute [local go_sem] Oper.semAt_some
set_option maxHeartbeats 3200000
set_option maxRecDepth 100000
set_option linter.unusedVariables false
set_option linter.unusedSimpArgs false

/-- The parts of so many bytes, n each, from a place on. -/
def chunkV (b off n N : Nat) : List Value := (List.range ((N + n - 1) / n)).map fun k => .slice (some ⟨b, off + k * n, none⟩) (min n (N - k * n)) (min n (N - k * n))
theorem Chunk_any (w : World) (a : Option Addr) (N c : Nat) (n : Nat) (hn : 1 ≤ n ∧ n ≤ 10000) :
    Calls Try.prog 52 #[.slice a N c, .int .i64 (n : Int)] w fun e w' => e = .returned (.func (.func 60) #[] #[.pointer (some ⟨w.heap.size, 0, none⟩), .pointer (some ⟨w.heap.size + 1, 0, none⟩)]) ∧
      w' = (w.alloc (.cells #[.slice a N c] 31)).alloc (.cells #[.int .i64 (n : Int)] 3) := by
  obtain ⟨h1, h2⟩ := hn
  have hmf : ∀ (fn : Fn) (first cap : Array Value) (w : World), (Instr.makeFunc fn first cap).run Try.prog w = .ok (.func fn first cap) w := fun _ _ _ _ => rfl
  go_enter Try.func52, Try.ntmps52
  go_wp2
  go_ret
  exact ⟨rfl, rfl⟩
theorem chunkV_len (b off n N : Nat) : (chunkV b off n N).length = (N + n - 1) / n := by simp [chunkV]
theorem chunkV_at (b off n N k : Nat) (hn : 1 ≤ n) (hk : k * n < N) : (chunkV b off n N)[k]? = some (.slice (some ⟨b, off + k * n, none⟩) (min n (N - k * n)) (min n (N - k * n))) := by
  have h : k < (N + n - 1) / n := by
    rw [Nat.lt_iff_add_one_le, Nat.le_div_iff_mul_le (by omega), Nat.add_mul]
    omega
  simp [chunkV, h]
theorem chunkV_end (n N k : Nat) (hn : 1 ≤ n) (h1 : N ≤ k * n) (h2 : (k - 1) * n < N ∨ k = 0) : (N + n - 1) / n = k := by
  rcases h2 with h2 | rfl
  · rcases k with _ | k
    · simp at h1 h2; omega
    · simp only [Nat.add_sub_cancel] at h2
      rw [Nat.add_mul] at h1
      exact Nat.div_eq_of_lt_le (by rw [Nat.add_mul]; omega) (by simp only [Nat.add_mul]; omega)
  · have : N = 0 := by simpa using h1
    subst this
    exact Nat.div_eq_of_lt (by omega)
theorem kptN (S : Nat → Prop) (w : World) (n : Nat) : Kpt S w (w.drewN n) := ⟨rfl, rfl, rfl, Nat.le_refl _, fun _ _ _ => rfl⟩
/-- What the closure hands out. -/
theorem Chunk_iter (w : World) (Bs Bn b off N c n : Nat) (hn : 1 ≤ n ∧ n ≤ 10000) (hN : N ≤ c ∧ N ≤ 200000000000000 ∧ c ≤ 9223372036854775807)
    (hs : w.heap[Bs]? = some (.cells #[.slice (some ⟨b, off, none⟩) N c] 31 (0, 0))) (hc : w.heap[Bn]? = some (.cells #[.int .i64 (n : Int)] 3 (0, 0))) :
    Iter Try.prog 60 #[.pointer (some ⟨Bs, 0, none⟩), .pointer (some ⟨Bn, 0, none⟩)] (fun b => b = Bs ∨ b = Bn) (chunkV b off n N) w := by
  intro l J Jx S W hW hl hS hJ hJx hY h0
  obtain ⟨hn1, hn2⟩ := hn
  obtain ⟨hN1, hN2, hN3⟩ := hN
  have hs' := (hW.block _ (heap_in hs)).trans hs
  have hc' := (hW.block _ (heap_in hc)).trans hc
  have hBs := heap_in hs
  have hBn := heap_in hc
  have hlen := chunkV_len b off n N
  have HAT := hid (fun k => chunkV_at b off n N k hn1)
  have HY := hid hY
  have HJ := hid hJ; have HJX := hid hJx
  have HS := hid hS
  clear hY hJ hJx hs hc hW hS
  go_enter Try.func60, Try.ntmps60
  go_wp2_with fail
  go_loopw [4] (fun i wr => ∃ (k : Nat) (S1 : Nat → Prop), (k = 0 ∨ (k - 1) * n < N) ∧ i = .int .i64 ((k * n : Nat) : Int) ∧ J k S1 wr ∧ (∀ b, S1 b → b < wr.heap.size ∧ b ≠ l ∧ b ≠ Bs ∧ b ≠ Bn) ∧ W.heap.size ≤ wr.heap.size ∧
      wr.heap[Bs]? = some (.cells #[.slice (some ⟨b, off, none⟩) N c] 31 (0, 0)) ∧ wr.heap[Bn]? = some (.cells #[.int .i64 (n : Int)] 3 (0, 0))) (fun i _ => N + n - (intOf i).toNat)
  case atStart => exact ⟨0, S, .inl rfl, by simp, h0, fun b hb => by have := HS.out b hb; exact ⟨this.1, this.2.1, fun e => this.2.2 (.inl e), fun e => this.2.2 (.inr e)⟩, Nat.le_refl _, hs', hc'⟩
  case round =>
    obtain ⟨k, S1, hk, rfl, hJs, hS1, hsz, hbs, hbn⟩ := hrel
    have cs := cell_of_one hbs
    have cn := cell_of_one hbn
    have HS1 := hid hS1
    have cs' : wr.drew.cell? ⟨Bs, 0, none⟩ = some (.slice (some ⟨b, off, none⟩) N c) := cs
    have cn' : wr.drew.cell? ⟨Bn, 0, none⟩ = some (.int .i64 (n : Int)) := cn
    clear hS1 hs' hc' h0
    by_cases hlt : k * n < N
    · have hv := HAT.out k hlt
      generalize hp : k * n = p at *
      obtain ⟨m, hm⟩ : ∃ m, m = min n (N - p) := ⟨_, rfl⟩
      rw [← hm] at hv
      have hm1 : 1 ≤ m := by omega
      have hm2 : p + m ≤ N := by omega
      have hmin : ∀ (ts : Array TypeId) (ty : TypeId) (W : World), (Builtin.min_ ts ty #[.int .i64 (n : Int), .int .i64 ((N - p : Nat) : Int)]).run Try.prog W = .ok (.int .i64 (m : Int)) W := by
        intro ts ty W
        rw [run_min_int2]
        have : (if ((N - p : Nat) : Int) < (n : Int) then ((N - p : Nat) : Int) else (n : Int)) = (m : Int) := by rw [hm]; split <;> omega
        rw [this]
      have hlt' : (p : Int) < (N : Int) := by omega
      have HM := hid hm
      clear hm
      refine (wpIn_wide (n := 1)).1 ?_
      gi_wp2_with fail
      gi_quiet (fail)
      have HN := HS1.out
      have hJ1 := HJ.out k S1 wr (wr.drewN nq) hJs (kptN _ wr nq)
      obtain ⟨fn, tmps, assign, body, hy, hR⟩ := HY.out k _ S1 (wr.drewN nq) hv hJ1 (fun b hb => (HN b hb).1) hsz
      have hend : p + m - p = m := by omega
      have HY2 := hid hend
      have c1 : (wr.drewN nq).cell? ⟨Bs, 0, none⟩ = some (.slice (some ⟨b, off, none⟩) N c) := cs
      clear hJs hJ1 HY HAT cs' cn' cs cn hmin
      gi_wp2
      refine hR.mono ?_
      rintro e W3 ⟨S3, kk, gg, ⟨rfl, hJ3⟩ | ⟨rfl, hJ3⟩⟩
      · have hbs3 := (kk.block Bs (heap_in hbs) (fun h => h.elim (fun h => (HN Bs h).2.2.1 rfl) (by omega))).trans hbs
        have hbn3 := (kk.block Bn (heap_in hbn) (fun h => h.elim (fun h => (HN Bn h).2.2.2 rfl) (by omega))).trans hbn
        have cn3 := cell_of_one hbn3
        have hz3 := Nat.le_trans hsz kk.size
        have hN3 : ∀ b, S3 b → b < W3.heap.size ∧ b ≠ l ∧ b ≠ Bs ∧ b ≠ Bn := by
          intro b hb
          obtain ⟨g1, g2⟩ := gg b hb
          refine ⟨g1, ?_⟩
          rcases g2 with g2 | g2
          · exact (HN b g2).2
          · have e1 := heap_in hbs
            have e2 := heap_in hbn
            change wr.heap.size ≤ b at g2
            omega
        have HN3 := hid hN3
        clear hbs hbn kk gg HN hN3
        gi_wp2
        go_roundw
        case rel => exact ⟨k + 1, S3, .inr (by simpa [hp] using hlt), by rw [Nat.add_mul, hp]; go_num, hJ3, HN3.out, hz3, hbs3, hbn3⟩
        case measure => simp [intOf]; omega
      · gi_wp2
        refine bodyPost_ret (results_none rfl _ _ _) rfl ?_
        exact ⟨⟨_, rfl⟩, S3, .inr hJ3⟩
    · have hlt' : ¬ ((k * n : Nat) : Int) < (N : Int) := by omega
      have e := chunkV_end n N k hn1 (by omega) (hk.elim (fun h => .inr h) .inl)
      generalize hp : k * n = p at *
      go_wp2
      go_end0
      exact ⟨⟨_, rfl⟩, S1, .inl hJs⟩
end Go.Proofs.Ytknhfaplddgnlaa
