/- The superblock: the walks of PutSuper and GetSuper, of both sides. -/
import Derived.Test.YtahlhdhljjpeoaaZeros
import Derived.Test.YtahlhdhljjpeoaaLow
import Derived.Test.YtahlhdhljjpeoaaOct3
import Derived.Test.YtahlhdhljjpeoaaSums
namespace Go.Proofs.Ytahlhdhljjpeoaa
open Go.RowKit
set_option maxHeartbeats 800000
set_option linter.unusedVariables false
set_option linter.unusedSimpArgs false

/-- A super. -/
structure Sup where
  bl : Int
  ep : Int
  sq : Int
  tl : Int
deriving DecidableEq
def Sup.val (s : Sup) : Value := .agg #[.int .i64 s.bl, .int .i64 s.ep, .int .i64 s.sq, .int .i64 s.tl]
def Sup.in_ (s : Sup) : Prop := (-9223372036854775808 ≤ s.bl ∧ s.bl ≤ 9223372036854775807) ∧ (-9223372036854775808 ≤ s.ep ∧ s.ep ≤ 9223372036854775807) ∧ (-9223372036854775808 ≤ s.sq ∧ s.sq ≤ 9223372036854775807) ∧ (-9223372036854775808 ≤ s.tl ∧ s.tl ≤ 9223372036854775807)
/-- Is it one? -/
def okS (s : Sup) : Bool := decide ((64 ≤ s.bl ∧ s.bl ≤ 512) ∧ (1 ≤ s.ep ∧ s.ep ≤ 8388608) ∧ (1 ≤ s.sq ∧ s.sq ≤ 549755813888) ∧ (0 ≤ s.tl ∧ s.tl ≤ 511))
def magicB : List UInt8 := [76, 69, 68, 71, 69, 82, 48, 49]
/-- Its numbers, one by one. -/
def sNum (s : Sup) : Nat → Nat
  | 0 => s.bl.toNat
  | 1 => s.ep.toNat
  | 2 => s.sq.toNat
  | _ => s.tl.toNat
def supTo (s : Sup) : Nat → List UInt8
  | 0 => magicB
  | k + 1 => supTo s k ++ be (sNum s k) 8
theorem supTo_length (s : Sup) : ∀ k, (supTo s k).length = 8 + 8 * k
  | 0 => rfl
  | k + 1 => by simp only [supTo, List.length_append, supTo_length s k, be_length]; omega
def supB (s : Sup) : List UInt8 := supTo s 4 ++ be (crcMore 0 (supTo s 4)) 4 ++ zeros 4052
theorem supB_length (s : Sup) : (supB s).length = 4096 := by simp [supB, supTo_length, be_length, zeros_length]
/-- What PutSuper answers. -/
def putS (s : Sup) : List UInt8 := if okS s then supB s else []
def errS (s : Sup) : Int := if okS s then 0 else 2
theorem sNum_lt {s : Sup} (h : okS s = true) (k : Nat) : sNum s k ≤ 549755813888 := by
  simp [okS] at h
  unfold sNum
  split <;> omega

theorem within_any (w : World) (lo n hi : Int) :
    Calls Try.prog 117 #[.int .i64 lo, .int .i64 n, .int .i64 hi] w fun e w' => e = .returned (.bool (decide (lo ≤ n ∧ n ≤ hi))) ∧ w = w' := by
  go_enter Try.func117, Try.ntmps117
  go_wp2
  all_goals
    go_ret
    refine ⟨?_, rfl⟩
    first
    | (simp; done)
    | (simp; omega)
theorem Equal_any (w : World) (a b : Option Addr) (c d n m : Nat) (l r : List UInt8) (hn : n = l.length) (hm : m = r.length) (hl : RdB w a l) (hr : RdB w b r) :
    Calls Try.prog 66 #[.slice a n c, .slice b m d] w fun e w' => e = .returned (.bool (l == r)) ∧ w = w' := by
  subst hn hm
  have h1 := run_strB c hl
  have h2 := run_strB d hr
  have h3 := strB_toList l
  have h4 := strB_toList r
  go_enter Try.func66, Try.ntmps66
  go_wp2
  go_ret
  exact ⟨rfl, rfl⟩
theorem below_two {B : Nat} {w w1 : World} (h : Below B w w1) (hB : w.heap.size ≤ w1.heap.size) (o p : Obj) (hw : B ≤ w.heap.size := by exact Nat.le_refl _) : Below B w ((w1.alloc o).alloc p) := (h.alloc (by omega) o).alloc (by simp; omega) p
/-- A cell of a block that is known, behind what was made since. -/
theorem cell_kept {w : World} {g : Nat} {cs : Array Value} {t : TypeId} (h : w.heap[g]? = some (.cells cs t (0, 0))) (j : Nat) (v : Value) (hj : cs[j]? = some v) (o : Obj) : (w.alloc o).cell? ⟨g, j, none⟩ = some v := by
  have hlt : g < w.heap.size := by
    rcases Nat.lt_or_ge g w.heap.size with h' | h'
    · exact h'
    · rw [Array.getElem?_eq_none h'] at h; cases h
  rw [cell_of_row _ _ _ cs t (0, 0) ((heap_alloc_old w o hlt).trans h)]
  exact hj
end Go.Proofs.Ytahlhdhljjpeoaa
