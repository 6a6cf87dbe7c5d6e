/- ledgerstonelow.Pick, with its value. -/
import Derived.Test.YtahlhdhljjpeoaaBase
namespace Go.Proofs.Ytahlhdhljjpeoaa
open Go.RowKit
set_option maxHeartbeats 800000
set_option linter.unusedVariables false
set_option linter.unusedSimpArgs false
/-- A number from 0 to n - 1 out of any number. -/
def pickN (x : Int) (n : Nat) : Nat := if x.tmod n < 0 then (x.tmod n + n).toNat else (x.tmod n).toNat
theorem pickN_lt (x : Int) (n : Nat) (hn : 0 < n) : pickN x n < n := by
  have h1 := Int.lt_tmod_of_pos x (show (0 : Int) < (n : Int) by omega)
  have h2 := Int.tmod_lt_of_pos x (show (0 : Int) < (n : Int) by omega)
  unfold pickN
  split <;> omega
theorem Pick_val (w : World) (x y : Int) (n : Nat) (hy : y = (n : Int)) (hx : -9223372036854775808 ≤ x ∧ x ≤ 9223372036854775807) (hn : 0 < n) (hn2 : n ≤ 200000000000000) :
    Calls Try.prog 14 #[.int .i64 x, .int .i64 y] w fun e w' => e = .returned (.int .i64 (pickN x n : Int)) ∧ w' = w := by
  subst hy
  have h1 := Int.lt_tmod_of_pos x (show (0 : Int) < (n : Int) by omega)
  have h2 := Int.tmod_lt_of_pos x (show (0 : Int) < (n : Int) by omega)
  have H1 := hid h1; have H2 := hid h2; clear h1 h2
  go_enter Try.func14, Try.ntmps14
  go_wp2
  · have h : x.tmod n < 0 := by assumption
    have h1 := H1.out
    have e : wrap64 (x.tmod n + n) = (pickN x n : Int) := by rw [IntWalk.wrap64_in _ (by omega), pickN, if_pos h]; omega
    have E := hid e; clear e
    go_ret
    exact ⟨by rw [← E.out]; rfl, rfl⟩
  · have h : 0 ≤ x.tmod n := by assumption
    have h2 := H2.out
    have e : x.tmod n = (pickN x n : Int) := by rw [pickN, if_neg (by omega)]; omega
    have E := hid e; clear e
    go_ret
    exact ⟨by rw [← E.out]; rfl, rfl⟩
end Go.Proofs.Ytahlhdhljjpeoaa
