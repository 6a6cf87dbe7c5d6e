/- Extents in memory; Right of both sides. -/
import Derived.Test.YtahlhdhljjpeoaaZeros
import Derived.Test.YtahlhdhljjpeoaaLow
import Derived.Test.YtahlhdhljjpeoaaOct3
import Derived.Test.YtahlhdhljjpeoaaSums
namespace Go.Proofs.Ytahlhdhljjpeoaa
open Go.RowKit
set_option maxHeartbeats 800000
set_option linter.unusedVariables false
set_option linter.unusedSimpArgs false

/-- An extent. -/
structure Ext where
  at_ : Int
  st : Int
  ct : Int
deriving DecidableEq
def Ext.ok (x : Ext) : Prop := (-9223372036854775808 ≤ x.at_ ∧ x.at_ ≤ 9223372036854775807) ∧ (-9223372036854775808 ≤ x.st ∧ x.st ≤ 9223372036854775807) ∧ (-9223372036854775808 ≤ x.ct ∧ x.ct ≤ 9223372036854775807)
def Ext.cells (x : Ext) : List Value := [.int .i64 x.at_, .int .i64 x.st, .int .i64 x.ct]
def Ext.val (x : Ext) : Value := .agg #[.int .i64 x.at_, .int .i64 x.st, .int .i64 x.ct]
def extCells : List Ext → List Value
  | [] => []
  | x :: l => x.cells ++ extCells l
/-- Is an extent wrong, behind so many blocks? -/
def Ext.bad (e : Int) (x : Ext) : Bool := decide (x.ct < 1 ∨ x.at_ < e ∨ x.st < 1 ∨ 512 < x.ct ∨ 512 - x.ct < x.at_ ∨ 512 - x.ct < x.st)

theorem wrong_any (B : Nat) (w : World) (x : Ext) (e : Int) (hx : x.ok) (hc : w.heap[B]? = some (.cells #[.int .i64 e] 3 (0, 0))) :
    Calls Try.prog 90 #[x.val, .pointer (some ⟨B, 0, none⟩)] w fun r w' => r = .returned (.bool (x.bad e)) ∧ ∃ e', (x.bad e = false → e' = x.at_ + x.ct) ∧ w'.heap[B]? = some (.cells #[.int .i64 e'] 3 (0, 0)) ∧ Below B w w' := by
  have hcell := cell_of_one hc
  have hfree := free_of_one hc
  have hB : B < w.heap.size := World.block_lt_of_cell? w _ hcell
  have hcA : ∀ o, (w.alloc o).cell? ⟨B, 0, none⟩ = some (.int .i64 e) := fun o => cell_below ((Below.refl _ w).alloc (Nat.le_refl _) o) hcell
  have hfA : ∀ o, (w.alloc o).frozen? ⟨B, 0, none⟩ = false := fun o => free_of_one ((heap_alloc_old w o hB).trans hc)
  obtain ⟨a, s, c⟩ := x
  simp only [Ext.val, Ext.ok] at *
  go_enter Try.func90, Try.ntmps90
  go_wp2_with fail
  all_goals
    go_ret
    refine ⟨?_, _, fun h => ?_, (heap_alloc_old _ _ (by simpa using hB)).trans (one_setCell hc), ((Below.refl B w).setCell (Nat.le_refl _) _).alloc (by simp; omega) _⟩
    · first
      | (simp [Ext.bad]; done)
      | (simp [Ext.bad]; omega)
      | simp [Ext.bad, Bool.or_assoc]
    · simp [Ext.bad] at h
      first
      | rfl
      | exact IntWalk.wrap64_in _ (by omega)
      | omega

/-! Extents that are read. -/
def RdX (w : World) (a : Option Addr) (l : List Ext) : Prop := RdV w a (extCells l)
theorem extCells_length (l : List Ext) : (extCells l).length = 3 * l.length := by
  induction l with
  | nil => rfl
  | cons x l ih => simp [extCells, Ext.cells, ih]; omega
theorem extCells_append (l m : List Ext) : extCells (l ++ m) = extCells l ++ extCells m := by
  induction l with
  | nil => rfl
  | cons x l ih => simp [extCells, ih]
theorem extCells_at (l : List Ext) (k j : Nat) (hk : k < l.length) (hj : j < 3) : (extCells l)[3 * k + j]? = l[k].cells[j]? := by
  induction l generalizing k with
  | nil => simp at hk
  | cons x l ih =>
    cases k with
    | zero => simp only [extCells, Nat.mul_zero, Nat.zero_add, List.getElem_cons_zero]; exact List.getElem?_append_left (by simp [Ext.cells]; omega)
    | succ k =>
      simp only [extCells, List.getElem_cons_succ]
      rw [List.getElem?_append_right (by simp [Ext.cells]; omega), ← ih k (by simpa using hk)]
      congr 1
      simp [Ext.cells]; omega
/-- An extent's place. -/
def xat (l : List Ext) (k : Nat) : Ext := l.getD k ⟨0, 0, 0⟩
theorem RdX.at_ {w : World} {a : Option Addr} {l : List Ext} (h : RdX w a l) (hn : l ≠ []) :
    ∃ b off, a = some ⟨b, off, none⟩ ∧ ∀ j, j < l.length → w.cell? ⟨b, off + j * 3, none⟩ = some (.int .i64 (xat l j).at_) ∧ w.cell? ⟨b, off + j * 3 + 1, none⟩ = some (.int .i64 (xat l j).st) ∧ w.cell? ⟨b, off + j * 3 + 2, none⟩ = some (.int .i64 (xat l j).ct) := by
  obtain ⟨b, off, rfl, hc⟩ := h (fun e => hn (by have := extCells_length l; rw [e] at this; simp at this; exact List.eq_nil_of_length_eq_zero (by omega)))
  refine ⟨b, off, rfl, fun j hj => ?_⟩
  have hx : xat l j = l[j] := by simp [xat, List.getD_eq_getElem?_getD, List.getElem?_eq_getElem hj]
  rw [hx]
  have k0 := hc (3 * j + 0) _ (extCells_at l j 0 hj (by omega))
  have k1 := hc (3 * j + 1) _ (extCells_at l j 1 hj (by omega))
  have k2 := hc (3 * j + 2) _ (extCells_at l j 2 hj (by omega))
  rw [show off + j * 3 = off + (3 * j + 0) by omega, show off + (3 * j + 0) + 1 = off + (3 * j + 1) by omega, show off + (3 * j + 0) + 2 = off + (3 * j + 2) by omega]
  exact ⟨k0, k1, k2⟩
theorem RdX.nil (w : World) (a : Option Addr) : RdX w a [] := RdV.nil w a
theorem RdX.below {w w' : World} {a : Option Addr} {l : List Ext} (h : RdX w a l) (hb : Below w.heap.size w w') : RdX w' a l := RdV.below h hb
/-- All in the range of an int. -/
def okX (l : List Ext) : Prop := ∀ k, k < l.length → (xat l k).ok

/-- How far the extents reach, so far; is one wrong? -/
def badTo (l : List Ext) : Nat → Bool
  | 0 => false
  | k + 1 => badTo l k || (xat l k).bad (if k = 0 then 0 else (xat l (k - 1)).at_ + (xat l (k - 1)).ct)
def rightX (l : List Ext) : Bool := !badTo l l.length
theorem badTo_mono (l : List Ext) (k m : Nat) (h : badTo l k = true) (hm : k ≤ m) : badTo l m = true := by
  induction m with
  | zero => obtain rfl : k = 0 := by omega
            exact h
  | succ m ih =>
    by_cases e : k = m + 1
    · subst e; exact h
    · simp only [badTo, ih (by omega), Bool.true_or]

/-- How far they reach, behind k of them. -/
def endTo (l : List Ext) (k : Nat) : Int := if k = 0 then 0 else (xat l (k - 1)).at_ + (xat l (k - 1)).ct
theorem badTo_succ (l : List Ext) (k : Nat) : badTo l (k + 1) = (badTo l k || (xat l k).bad (endTo l k)) := rfl
theorem IndexFunc_any (w0 w : World) (hb0 : Below w0.heap.size w0 w) (hc : w.heap[w0.heap.size]? = some (.cells #[.int .i64 0] 3 (0, 0))) (a : Option Addr) (c N : Nat) (l : List Ext) (hN : N = l.length) (hl : l.length ≤ 200000000000000) (hr : RdX w0 a l) (ho : okX l) :
    Calls Try.prog 48 #[.slice a N c, .func (.func 90) #[] #[.pointer (some ⟨w0.heap.size, 0, none⟩)]] w fun e w' => (∃ n : Int, e = .returned (.int .i64 n) ∧ decide (0 ≤ n) = badTo l l.length) ∧ Below w0.heap.size w0 w' := by
  subst hN
  go_enter Try.func48, Try.ntmps48
  go_wp2_with fail
  go_loopw [8] (fun i wr => ∃ k : Nat, k ≤ l.length ∧ i = .int .i64 k ∧ badTo l k = false ∧ wr.heap[w0.heap.size]? = some (.cells #[.int .i64 (endTo l k)] 3 (0, 0)) ∧ Below w0.heap.size w0 wr) (fun i _ => l.length - (intOf i).toNat)
  case atStart => exact ⟨0, by omega, rfl, rfl, hc, hb0⟩
  case round =>
    obtain ⟨k, hk, rfl, hbad, hce, hbl⟩ := hrel
    by_cases hlt : k < l.length
    · obtain ⟨b, off, rfl, hcs⟩ := (hr.below hbl).at_ (by intro e; simp [e] at hlt)
      obtain ⟨k0, k1, k2⟩ := hcs k hlt
      clear hcs
      have HX := ho k hlt
      have HB := badTo_succ l k
      have HE : endTo l (k + 1) = (xat l k).at_ + (xat l k).ct := by simp [endTo]
      have HB := hid HB; have HE := hid HE; have HC := hid hce
      go_wp2_with fail
      refine (wrong_any _ _ (xat l k) _ HX HC.out).mono ?_
      rintro e w1 ⟨rfl, e', he, hc1, b1⟩
      have hbl1 := hbl.trans b1
      have HC1 := hid hc1; clear hc1
      by_cases hb : (xat l k).bad (endTo l k) = true
      · rw [hb]
        have hall := badTo_mono l (k + 1) l.length (by rw [HB.out, hb, Bool.or_true]) (by omega)
        go_wp2
        go_ret
        exact ⟨⟨(k : Int), rfl, by rw [hall]; simp⟩, hbl1⟩
      · have hb := eq_false_of_ne_true hb
        rw [hb]
        have he := hid (he hb)
        go_wp2
        go_roundw
        case rel => exact ⟨k + 1, by omega, by go_num, by rw [HB.out, hbad, hb]; rfl, by rw [HE.out, ← he.out]; exact HC1.out, hbl1⟩
        case measure => simp [intOf]; omega
    · obtain rfl : k = l.length := by omega
      go_wp2
      go_ret
      exact ⟨⟨-1, rfl, by rw [hbad]; rfl⟩, hbl⟩
theorem ContainsFunc_any (w0 w : World) (hb0 : Below w0.heap.size w0 w) (hc : w.heap[w0.heap.size]? = some (.cells #[.int .i64 0] 3 (0, 0))) (a : Option Addr) (c N : Nat) (l : List Ext) (hN : N = l.length) (hl : l.length ≤ 200000000000000) (hr : RdX w0 a l) (ho : okX l) :
    Calls Try.prog 79 #[.slice a N c, .func (.func 90) #[] #[.pointer (some ⟨w0.heap.size, 0, none⟩)]] w fun e w' => e = .returned (.bool (badTo l l.length)) ∧ Below w0.heap.size w0 w' := by
  subst hN
  go_enter Try.func79, Try.ntmps79
  go_wp2_with fail
  refine (IndexFunc_any w0 w hb0 hc a c _ l rfl hl hr ho).mono ?_
  rintro e w1 ⟨⟨n, rfl, hn⟩, b1⟩
  go_wp2_with fail
  go_ret
  exact ⟨by rw [← hn]; rfl, b1⟩
theorem Right_any (w : World) (a : Option Addr) (c N : Nat) (l : List Ext) (hN : N = l.length) (hl : l.length ≤ 200000000000000) (hr : RdX w a l) (ho : okX l) :
    Calls Try.prog 47 #[.slice a N c] w fun e w' => e = .returned (.bool (rightX l)) ∧ Below w.heap.size w w' := by
  subst hN
  have hmf : ∀ (fn : Fn) (first cap : Array Value) (w : World), (Instr.makeFunc fn first cap).run Try.prog w = .ok (.func fn first cap) w := fun _ _ _ _ => rfl
  go_enter Try.func47, Try.ntmps47
  go_wp2_with fail
  refine (ContainsFunc_any w _ ((Below.refl _ _).alloc (Nat.le_refl _) _) (heap_alloc_new w _) a c _ l rfl hl hr ho).mono ?_
  rintro e w1 ⟨rfl, b1⟩
  go_wp2
  go_ret
  exact ⟨rfl, b1⟩
end Go.Proofs.Ytahlhdhljjpeoaa
