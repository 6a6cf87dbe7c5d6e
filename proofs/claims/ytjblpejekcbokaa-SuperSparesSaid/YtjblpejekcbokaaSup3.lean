/- GetSuper of both sides. -/
import Derived.Test.YtjblpejekcbokaaSup2
namespace Go.Proofs.Ytjblpejekcbokaa
open Go.RowKit
set_option maxHeartbeats 800000
set_option linter.unusedVariables false
set_option linter.unusedSimpArgs false

/-- A number of eight bytes, as an int. -/
def w64 (n : Nat) : Int := if n < 9223372036854775808 then (n : Int) else (n : Int) - 18446744073709551616
theorem w64_in (n : Nat) (h : n < 18446744073709551616) : -9223372036854775808 ≤ w64 n ∧ w64 n ≤ 9223372036854775807 := by unfold w64; split <;> omega
theorem w64_wrap (n : Nat) (h : n < 18446744073709551616) : IntKind.i64.wrap (n : Int) = w64 n := by
  rw [IntKind.wrap_i64]; unfold w64; split <;> omega
theorem wrap64_nat (n : Nat) (h : n < 18446744073709551616) : wrap64 (n : Int) = w64 n := by
  unfold wrap64 w64; split <;> omega
theorem rnumber_any (w : World) (a : Option Addr) (c N : Nat) (l : List UInt8) (hN : N = l.length) (p : Int) (n : Nat) (y : Int) (hy : y = (n : Int)) (hl : l.length ≤ 200000000000000) (hr : RdB w a l) (hp : -9223372036854775808 ≤ p ∧ p ≤ 9223372036854775807) (hn : n ≤ 8) :
    Calls Try.prog 56 #[.slice a N c, .int .i64 p, .int .i64 y] w fun e w' => e = .returned (.int .i64 (w64 (numV l p n))) ∧ w = w' := by
  subst hN hy
  have hlt : numV l p n < 18446744073709551616 := by
    have := numV_lt l p n
    have h2 : 256 ^ n ≤ 256 ^ 8 := Nat.pow_le_pow_right (by decide) hn
    omega
  have e1 := hid (wrap64_nat _ hlt); have e2 := hid (w64_wrap _ hlt)
  have HL := hid hlt; clear hlt
  go_enter Try.func56, Try.ntmps56
  go_wp2_with fail
  refine (Number_any _ _ _ _ l rfl p n hl hr hp hn).mono ?_
  rintro e w' ⟨rfl, rfl⟩
  go_wp2
  go_ret
  refine ⟨?_, rfl⟩
  show Ending.returned (.int .i64 (wrap64 _)) = _
  rw [e1.out]

/-- What the bytes say. -/
def gN (l : List UInt8) (k : Nat) : Int := w64 (numV l (8 + 8 * (k : Int)) 8)
def getS (l : List UInt8) : Sup := ⟨gN l 0, gN l 1, gN l 2, gN l 3⟩
def isS (l : List UInt8) : Bool := okS (getS l) && (supB (getS l) == l)
def gotS (l : List UInt8) : Sup := if isS l then getS l else ⟨0, 0, 0, 0⟩
def gerrS (l : List UInt8) : Int := if isS l then 0 else 30
theorem numV8_lt (l : List UInt8) (p : Int) : numV l p 8 < 18446744073709551616 := numV_lt l p 8
/-- The four numbers, so far. -/
def gTo (l : List UInt8) (k : Nat) : List Value := (List.range 4).map fun j => .int .i64 (if j < k then gN l j else 0)
theorem gTo_set (l : List UInt8) (k : Nat) (hk : k < 4) : (gTo l k).set k (.int .i64 (gN l k)) = gTo l (k + 1) := by
  rcases k with _ | _ | _ | _ | k <;> first | rfl | omega
theorem free_of_row {w : World} {g : Nat} {cs : Array Value} {t : TypeId} (h : w.heap[g]? = some (.cells cs t (0, 0))) (k : Nat) : w.frozen? ⟨g, k, none⟩ = false := by
  simp [World.frozen?, h]
set_option maxRecDepth 100000 in
theorem GetSuper_any (w : World) (a : Option Addr) (c N : Nat) (l : List UInt8) (hN : N = l.length) (hl : l.length ≤ 200000000000000) (hr : RdB w a l) :
    Calls Try.prog 25 #[.slice a N c] w fun e w' => e = .returned (.tuple #[(gotS l).val, .int .i64 (gerrS l)]) ∧ Below w.heap.size w w' := by
  subst hN
  go_enter Try.func25, Try.ntmps25
  go_wp2_with fail
  go_loopw [11] (fun i wr => ∃ k : Nat, k ≤ 4 ∧ i = .int .i64 k ∧ wr.heap[w.heap.size + 1]? = some (.cells (gTo l k).toArray 78 (0, 0)) ∧ wr.heap[w.heap.size]? = some (.cells #[.int .i64 0, .int .i64 0, .int .i64 0, .int .i64 0] 23 (0, 0)) ∧ Below w.heap.size w wr) (fun i _ => 4 - (intOf i).toNat)
  case atStart =>
    refine ⟨0, by omega, rfl, ?_, ?_, below_two (Below.refl _ w) (Nat.le_refl _) _ _⟩
    · have := heap_alloc_new (w.alloc (.cells #[.int .i64 0, .int .i64 0, .int .i64 0, .int .i64 0] 23)) (.cells #[.int .i64 0, .int .i64 0, .int .i64 0, .int .i64 0] 78)
      rw [show (gTo l 0).toArray = #[.int .i64 0, .int .i64 0, .int .i64 0, .int .i64 0] from rfl]
      simpa using this
    · exact (heap_alloc_old _ _ (by simp)).trans (heap_alloc_new w _)
  case round =>
    obtain ⟨k, hk, rfl, hrow, hres, hbl⟩ := hrel
    by_cases hlt : k < 4
    · have hrk := hr.below hbl
      have hc : wr.cell? ⟨w.heap.size + 1, k, none⟩ = some (.int .i64 0) := by
        rw [cell_of_row _ _ _ _ _ _ hrow]
        rcases k with _ | _ | _ | _ | k <;> first | rfl | omega
      have hf : wr.frozen? ⟨w.heap.size + 1, k, none⟩ = false := free_of_row hrow k
      have hn := numV8_lt l (8 + 8 * (k : Int))
      have e1 := hid (wrap64_nat _ hn)
      go_wp2_with fail
      refine (U64_any _ _ _ _ l rfl _ hl hrk (by omega)).mono ?_
      rintro e w' ⟨rfl, rfl⟩
      go_wp2
      go_roundw
      case rel =>
        refine ⟨k + 1, by omega, by go_num, ?_, ?_, hbl.setCell (by simp) _⟩
        · rw [heap_setCell_same _ _ _ _ _ _ hrow, e1.out, ← gTo_set l k hlt]
          simp [gN]
        · rw [heap_setCell_other _ _ _ _ (by simp), hres]
      case measure => simp [intOf]; omega
    · obtain rfl : k = 4 := by omega
      have hlt := World.block_lt_of_cell? wr ⟨w.heap.size + 1, 0, none⟩ (show wr.cell? ⟨w.heap.size + 1, 0, none⟩ = some (.int .i64 (gN l 0)) by rw [cell_of_row _ _ _ _ _ _ hrow]; rfl)
      have c0 : wr.cell? ⟨w.heap.size + 1, 0, none⟩ = some (.int .i64 (gN l 0)) := by rw [cell_of_row _ _ _ _ _ _ hrow]; rfl
      have c1 : wr.cell? ⟨w.heap.size + 1, 1, none⟩ = some (.int .i64 (gN l 1)) := by rw [cell_of_row _ _ _ _ _ _ hrow]; rfl
      have c2 : wr.cell? ⟨w.heap.size + 1, 2, none⟩ = some (.int .i64 (gN l 2)) := by rw [cell_of_row _ _ _ _ _ _ hrow]; rfl
      have c3 : wr.cell? ⟨w.heap.size + 1, 3, none⟩ = some (.int .i64 (gN l 3)) := by rw [cell_of_row _ _ _ _ _ _ hrow]; rfl
      go_wp2_with fail
      have h8 := heap_alloc_new wr (.cells #[.int .i64 (gN l 0), .int .i64 (gN l 1), .int .i64 (gN l 2), .int .i64 (gN l 3)] 23)
      have h2 := (heap_alloc_old wr (.cells #[.int .i64 (gN l 0), .int .i64 (gN l 1), .int .i64 (gN l 2), .int .i64 (gN l 3)] 23) (show w.heap.size < wr.heap.size by omega)).trans hres
      refine (PutSuper_any _ (getS l)).mono ?_
      rintro e w1 ⟨A1, k1, rfl, ho, b1⟩
      have h8 := (b1.block wr.heap.size (by simp)).trans h8
      have h2 := (b1.block w.heap.size (by simp; omega)).trans h2
      have f0 := free_of_row h2 0; have f1 := free_of_row h2 1; have f2 := free_of_row h2 2; have f3 := free_of_row h2 3
      have z0 : w1.cell? ⟨w.heap.size, 0, none⟩ = some (.int .i64 0) := by rw [cell_of_row _ _ _ _ _ _ h2]; rfl
      have z1 : w1.cell? ⟨w.heap.size, 1, none⟩ = some (.int .i64 0) := by rw [cell_of_row _ _ _ _ _ _ h2]; rfl
      have z2 : w1.cell? ⟨w.heap.size, 2, none⟩ = some (.int .i64 0) := by rw [cell_of_row _ _ _ _ _ _ h2]; rfl
      have z3 : w1.cell? ⟨w.heap.size, 3, none⟩ = some (.int .i64 0) := by rw [cell_of_row _ _ _ _ _ _ h2]; rfl
      have y0 : w1.cell? ⟨wr.heap.size, 0, none⟩ = some (.int .i64 (gN l 0)) := by rw [cell_of_row _ _ _ _ _ _ h8]; rfl
      have y1 : w1.cell? ⟨wr.heap.size, 1, none⟩ = some (.int .i64 (gN l 1)) := by rw [cell_of_row _ _ _ _ _ _ h8]; rfl
      have y2 : w1.cell? ⟨wr.heap.size, 2, none⟩ = some (.int .i64 (gN l 2)) := by rw [cell_of_row _ _ _ _ _ _ h8]; rfl
      have y3 : w1.cell? ⟨wr.heap.size, 3, none⟩ = some (.int .i64 (gN l 3)) := by rw [cell_of_row _ _ _ _ _ _ h8]; rfl
      have bw := (hbl.alloc hbl.size _).trans (b1.mono (by have := hbl.size; simp; omega))
      have hr1 := hr.below bw
      have ho := ho.rd
      clear h8 h2 c0 c1 c2 c3 hrow hres b1
      by_cases hok : okS (getS l) = true
      · have he : errS (getS l) = 0 := by rw [errS, if_pos hok]
        rw [he]
        go_wp2_with fail
        refine (Equal_any _ _ _ _ _ _ _ (putS (getS l)) l rfl rfl ho hr1).mono ?_
        rintro e w' ⟨rfl, rfl⟩
        by_cases heq : (putS (getS l) == l) = true
        · rw [heq]
          have hg : gotS l = getS l ∧ gerrS l = 0 := by
            have : isS l = true := by
              rw [isS, hok, Bool.true_and]; rw [putS, if_pos hok] at heq; exact heq
            simp [gotS, gerrS, this]
          have HG := hid hg; clear hg
          go_wp2_with fail
          rw [HG.out.1, HG.out.2]
          refine bodyPost_ret (v := .tuple #[(getS l).val, .int .i64 0]) ?_ rfl ⟨rfl, ?_⟩
          · simp [results, Try.results25, go_sem, Sup.val, getS, z0, z1, z2, z3]
          · exact (((bw.setCell (Nat.le_refl _) _).setCell (Nat.le_refl _) _).setCell (Nat.le_refl _) _).setCell (Nat.le_refl _) _
        · have heq := eq_false_of_ne_true heq
          rw [heq]
          have hg : gotS l = ⟨0, 0, 0, 0⟩ ∧ gerrS l = 30 := by
            have : isS l = false := by
              rw [isS, hok, Bool.true_and]; rw [putS, if_pos hok] at heq; exact heq
            simp [gotS, gerrS, this]
          have HG := hid hg; clear hg
          go_wp2_with fail
          rw [HG.out.1, HG.out.2]
          refine bodyPost_ret (v := .tuple #[(⟨0, 0, 0, 0⟩ : Sup).val, .int .i64 30]) ?_ rfl ⟨rfl, ?_⟩
          · simp [results, Try.results25, go_sem, Sup.val, getS, z0, z1, z2, z3]
          · exact (((bw.setCell (Nat.le_refl _) _).setCell (Nat.le_refl _) _).setCell (Nat.le_refl _) _).setCell (Nat.le_refl _) _
      · have hok := eq_false_of_ne_true hok
        have he : errS (getS l) = 2 := by rw [errS, hok]; rfl
        rw [he]
        have hg : gotS l = ⟨0, 0, 0, 0⟩ ∧ gerrS l = 30 := by
          have : isS l = false := by rw [isS, hok, Bool.false_and]
          simp [gotS, gerrS, this]
        have HG := hid hg; clear hg
        go_wp2_with fail
        rw [HG.out.1, HG.out.2]
        refine bodyPost_ret (v := .tuple #[(⟨0, 0, 0, 0⟩ : Sup).val, .int .i64 30]) ?_ rfl ⟨rfl, ?_⟩
        · simp [results, Try.results25, go_sem, Sup.val, getS, z0, z1, z2, z3]
        · exact (((bw.setCell (Nat.le_refl _) _).setCell (Nat.le_refl _) _).setCell (Nat.le_refl _) _).setCell (Nat.le_refl _) _
set_option maxRecDepth 100000 in
theorem refGetSuper_any (w : World) (a : Option Addr) (c N : Nat) (l : List UInt8) (hN : N = l.length) (hl : l.length ≤ 200000000000000) (hr : RdB w a l) :
    Calls Try.prog 31 #[.slice a N c] w fun e w' => e = .returned (.tuple #[(gotS l).val, .int .i64 (gerrS l)]) ∧ Below w.heap.size w w' := by
  subst hN
  have n0 : gN l 0 = w64 (numV l 8 8) := rfl
  have n1 : gN l 1 = w64 (numV l 16 8) := rfl
  have n2 : gN l 2 = w64 (numV l 24 8) := rfl
  have n3 : gN l 3 = w64 (numV l 32 8) := rfl
  have N0 := hid n0; have N1 := hid n1; have N2 := hid n2; have N3 := hid n3
  clear n0 n1 n2 n3
  have hbl := (Below.refl _ w).alloc (Nat.le_refl _) (.cells #[.int .i64 0, .int .i64 0, .int .i64 0, .int .i64 0] 23)
  have hrk := hr.below hbl
  go_enter Try.func31, Try.ntmps31
  go_wp2_with fail
  refine (rnumber_any _ _ _ _ l rfl 8 8 8 rfl hl hrk (by decide) (by decide)).mono ?_
  rw [← N0.out]
  rintro e w' ⟨rfl, rfl⟩
  go_wp2_with fail
  refine (rnumber_any _ _ _ _ l rfl 16 8 8 rfl hl hrk (by decide) (by decide)).mono ?_
  rw [← N1.out]
  rintro e w' ⟨rfl, rfl⟩
  go_wp2_with fail
  refine (rnumber_any _ _ _ _ l rfl 24 8 8 rfl hl hrk (by decide) (by decide)).mono ?_
  rw [← N2.out]
  rintro e w' ⟨rfl, rfl⟩
  go_wp2_with fail
  refine (rnumber_any _ _ _ _ l rfl 32 8 8 rfl hl hrk (by decide) (by decide)).mono ?_
  rw [← N3.out]
  rintro e w' ⟨rfl, rfl⟩
  go_wp2_with fail
  obtain ⟨wr, hwr⟩ : ∃ wr, wr = w.alloc (.cells #[.int .i64 0, .int .i64 0, .int .i64 0, .int .i64 0] 23) := ⟨_, rfl⟩
  have hres : wr.heap[w.heap.size]? = some (.cells #[.int .i64 0, .int .i64 0, .int .i64 0, .int .i64 0] 23 (0, 0)) := by rw [hwr]; exact heap_alloc_new w _
  have hlt : w.heap.size < wr.heap.size := by rw [hwr]; simp
  have hsz := hid (show wr.heap.size = w.heap.size + 1 by rw [hwr]; simp)
  rw [← hwr] at hbl
  rw [← hwr]
  clear hrk hwr
  have h8 := heap_alloc_new wr (.cells #[.int .i64 (gN l 0), .int .i64 (gN l 1), .int .i64 (gN l 2), .int .i64 (gN l 3)] 23)
  have h2 := (heap_alloc_old wr (.cells #[.int .i64 (gN l 0), .int .i64 (gN l 1), .int .i64 (gN l 2), .int .i64 (gN l 3)] 23) (show w.heap.size < wr.heap.size by omega)).trans hres
  refine (refPutSuper_any _ (getS l)).mono ?_
  rintro e w1 ⟨A1, k1, rfl, ho, b1⟩
  have h8 := (b1.block wr.heap.size (by simp)).trans h8
  have h2 := (b1.block w.heap.size (by simp; omega)).trans h2
  have f0 := free_of_row h2 0; have f1 := free_of_row h2 1; have f2 := free_of_row h2 2; have f3 := free_of_row h2 3
  have z0 : w1.cell? ⟨w.heap.size, 0, none⟩ = some (.int .i64 0) := by rw [cell_of_row _ _ _ _ _ _ h2]; rfl
  have z1 : w1.cell? ⟨w.heap.size, 1, none⟩ = some (.int .i64 0) := by rw [cell_of_row _ _ _ _ _ _ h2]; rfl
  have z2 : w1.cell? ⟨w.heap.size, 2, none⟩ = some (.int .i64 0) := by rw [cell_of_row _ _ _ _ _ _ h2]; rfl
  have z3 : w1.cell? ⟨w.heap.size, 3, none⟩ = some (.int .i64 0) := by rw [cell_of_row _ _ _ _ _ _ h2]; rfl
  have y0 : w1.cell? ⟨wr.heap.size, 0, none⟩ = some (.int .i64 (gN l 0)) := by rw [cell_of_row _ _ _ _ _ _ h8]; rfl
  have y1 : w1.cell? ⟨wr.heap.size, 1, none⟩ = some (.int .i64 (gN l 1)) := by rw [cell_of_row _ _ _ _ _ _ h8]; rfl
  have y2 : w1.cell? ⟨wr.heap.size, 2, none⟩ = some (.int .i64 (gN l 2)) := by rw [cell_of_row _ _ _ _ _ _ h8]; rfl
  have y3 : w1.cell? ⟨wr.heap.size, 3, none⟩ = some (.int .i64 (gN l 3)) := by rw [cell_of_row _ _ _ _ _ _ h8]; rfl
  have bw := (hbl.alloc hbl.size _).trans (b1.mono (by have := hbl.size; simp; omega))
  have hr1 := hr.below bw
  have ho := ho.rd
  clear h8 h2 hres b1
  rw [hsz.out] at y0 y1 y2 y3
  by_cases hok : okS (getS l) = true
  · have he : errS (getS l) = 0 := by rw [errS, if_pos hok]
    rw [he]
    go_wp2_with fail
    refine (SameBytes_any _ _ _ _ _ _ _ (putS (getS l)) l rfl rfl ho hr1).mono ?_
    rintro e w' ⟨rfl, rfl⟩
    by_cases heq : (putS (getS l) == l) = true
    · rw [heq]
      have hg : gotS l = getS l ∧ gerrS l = 0 := by
        have : isS l = true := by
          rw [isS, hok, Bool.true_and]; rw [putS, if_pos hok] at heq; exact heq
        simp [gotS, gerrS, this]
      have HG := hid hg; clear hg
      go_wp2_with fail
      rw [HG.out.1, HG.out.2]
      refine bodyPost_ret (v := .tuple #[(getS l).val, .int .i64 0]) ?_ rfl ⟨rfl, ?_⟩
      · simp [results, Try.results31, go_sem, Sup.val, getS, z0, z1, z2, z3]
      · exact (((bw.setCell (Nat.le_refl _) _).setCell (Nat.le_refl _) _).setCell (Nat.le_refl _) _).setCell (Nat.le_refl _) _
    · have heq := eq_false_of_ne_true heq
      rw [heq]
      have hg : gotS l = ⟨0, 0, 0, 0⟩ ∧ gerrS l = 30 := by
        have : isS l = false := by
          rw [isS, hok, Bool.true_and]; rw [putS, if_pos hok] at heq; exact heq
        simp [gotS, gerrS, this]
      have HG := hid hg; clear hg
      go_wp2_with fail
      rw [HG.out.1, HG.out.2]
      refine bodyPost_ret (v := .tuple #[(⟨0, 0, 0, 0⟩ : Sup).val, .int .i64 30]) ?_ rfl ⟨rfl, ?_⟩
      · simp [results, Try.results31, go_sem, Sup.val, getS, z0, z1, z2, z3]
      · exact (((bw.setCell (Nat.le_refl _) _).setCell (Nat.le_refl _) _).setCell (Nat.le_refl _) _).setCell (Nat.le_refl _) _
  · have hok := eq_false_of_ne_true hok
    have he : errS (getS l) = 2 := by rw [errS, hok]; rfl
    rw [he]
    have hg : gotS l = ⟨0, 0, 0, 0⟩ ∧ gerrS l = 30 := by
      have : isS l = false := by rw [isS, hok, Bool.false_and]
      simp [gotS, gerrS, this]
    have HG := hid hg; clear hg
    go_wp2_with fail
    rw [HG.out.1, HG.out.2]
    refine bodyPost_ret (v := .tuple #[(⟨0, 0, 0, 0⟩ : Sup).val, .int .i64 30]) ?_ rfl ⟨rfl, ?_⟩
    · simp [results, Try.results31, go_sem, Sup.val, getS, z0, z1, z2, z3]
    · exact (((bw.setCell (Nat.le_refl _) _).setCell (Nat.le_refl _) _).setCell (Nat.le_refl _) _).setCell (Nat.le_refl _) _
end Go.Proofs.Ytjblpejekcbokaa
