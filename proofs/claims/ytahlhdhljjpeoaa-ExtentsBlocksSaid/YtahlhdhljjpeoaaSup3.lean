/- GetSuper of both sides. -/
import Derived.Test.YtahlhdhljjpeoaaSup2
namespace Go.Proofs.Ytahlhdhljjpeoaa
open Go.RowKit
set_option maxHeartbeats 800000
set_option linter.unusedVariables false
set_option linter.unusedSimpArgs false

/-- A number of eight bytes, as an int. -/
def w64 (n : Nat) : Int := if n < 9223372036854775808 then (n : Int) else (n : Int) - 18446744073709551616
theorem w64_in (n : Nat) (h : n < 18446744073709551616) : -9223372036854775808 ≤ w64 n ∧ w64 n ≤ 9223372036854775807 := by unfold w64; split <;> omega
theorem w64_wrap (n : Nat) (h : n < 18446744073709551616) : IntKind.i64.wrap (n : Int) = w64 n := by
  rw [IntKind.wrap_i64]; unfold w64; split <;> omega
theorem wrap64_nat (n : Nat) (h : n < 18446744073709551616) : wrap64 (n : Int) = w64 n := by
  unfold wrap64 w64; split <;> omega
theorem rnumber_any (w : World) (a : Option Addr) (c N : Nat) (l : List UInt8) (hN : N = l.length) (p : Int) (n : Nat) (y : Int) (hy : y = (n : Int)) (hl : l.length ≤ 200000000000000) (hr : RdB w a l) (hp : -9223372036854775808 ≤ p ∧ p ≤ 9223372036854775807) (hn : n ≤ 8) :
    Calls Try.prog 109 #[.slice a N c, .int .i64 p, .int .i64 y] w fun e w' => e = .returned (.int .i64 (w64 (numV l p n))) ∧ w = w' := by
  subst hN hy
  have hlt : numV l p n < 18446744073709551616 := by
    have := numV_lt l p n
    have h2 : 256 ^ n ≤ 256 ^ 8 := Nat.pow_le_pow_right (by decide) hn
    omega
  have e1 := hid (wrap64_nat _ hlt); have e2 := hid (w64_wrap _ hlt)
  have HL := hid hlt; clear hlt
  go_enter Try.func109, Try.ntmps109
  go_wp2_with fail
  refine (Number_any _ _ _ _ l rfl p n hl hr hp hn).mono ?_
  rintro e w' ⟨rfl, rfl⟩
  go_wp2
  go_ret
  refine ⟨?_, rfl⟩
  show Ending.returned (.int .i64 (wrap64 _)) = _
  rw [e1.out]

/-- What the bytes say. -/
def gN (l : List UInt8) (k : Nat) : Int := w64 (numV l (8 + 8 * (k : Int)) 8)
def getS (l : List UInt8) : Sup := ⟨gN l 0, gN l 1, gN l 2, gN l 3⟩
def isS (l : List UInt8) : Bool := okS (getS l) && (supB (getS l) == l)
def gotS (l : List UInt8) : Sup := if isS l then getS l else ⟨0, 0, 0, 0⟩
def gerrS (l : List UInt8) : Int := if isS l then 0 else 30
theorem numV8_lt (l : List UInt8) (p : Int) : numV l p 8 < 18446744073709551616 := numV_lt l p 8
/-- The four numbers, so far. -/
def gTo (l : List UInt8) (k : Nat) : List Value := (List.range 4).map fun j => .int .i64 (if j < k then gN l j else 0)
theorem gTo_set (l : List UInt8) (k : Nat) (hk : k < 4) : (gTo l k).set k (.int .i64 (gN l k)) = gTo l (k + 1) := by
  rcases k with _ | _ | _ | _ | k <;> first | rfl | omega
theorem free_of_row {w : World} {g : Nat} {cs : Array Value} {t : TypeId} (h : w.heap[g]? = some (.cells cs t (0, 0))) (k : Nat) : w.frozen? ⟨g, k, none⟩ = false := by
  simp [World.frozen?, h]
end Go.Proofs.Ytahlhdhljjpeoaa
