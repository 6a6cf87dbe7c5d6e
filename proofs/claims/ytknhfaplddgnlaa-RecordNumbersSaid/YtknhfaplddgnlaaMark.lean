/- ledgerstonelow.markByte. -/
import Derived.Test.YtknhfaplddgnlaaLow
import Derived.BigQuiet
namespace Go.Proofs.Ytknhfaplddgnlaa
open Go.RowKit
set_option maxHeartbeats 3200000
set_option linter.unusedVariables false
set_option linter.unusedSimpArgs false

/-- The mark of place i in list k. -/
def mkB (k i : Nat) : UInt8 := UInt8.ofNat ((1000003 * (k + 7) + i) * 11400714819323198485 % 18446744073709551616 / 72057594037927936)
theorem mkB_toNat (k i : Nat) : (mkB k i).toNat = (1000003 * (k + 7) + i) * 11400714819323198485 % 18446744073709551616 / 72057594037927936 := by
  have : (1000003 * (k + 7) + i) * 11400714819323198485 % 18446744073709551616 < 18446744073709551616 := Nat.mod_lt _ (by decide)
  rw [mkB, UInt8.toNat_ofNat']
  omega
theorem markByte_any (w : World) (k i : Nat) (x y : Int) (hx : x = (k : Int)) (hy : y = (i : Int)) (hk : k ≤ 1000000) (hi : i ≤ 200000000000000) :
    Calls Try.prog 47 #[.int .i64 x, .int .i64 y] w fun e w' => e = .returned (.int .u8 ((mkB k i).toNat : Nat)) ∧ w' = w := by
  subst hx hy
  have e : IntKind.u64.wrap ((1000003 * ((k : Int) + 7) + (i : Int)) * 11400714819323198485) / 72057594037927936 % 256 = (((mkB k i).toNat : Nat) : Int) := by
    rw [mkB_toNat]
    have h : IntKind.u64.wrap ((1000003 * ((k : Int) + 7) + (i : Int)) * 11400714819323198485) = ((1000003 * ((k : Int) + 7) + (i : Int)) * 11400714819323198485) % 18446744073709551616 := by simp [IntKind.wrap, IntKind.signed, IntKind.bits]
    rw [h]
    have hc : (1000003 * ((k : Int) + 7) + (i : Int)) * 11400714819323198485 = (((1000003 * (k + 7) + i) * 11400714819323198485 : Nat) : Int) := by omega
    rw [hc]
    generalize (1000003 * (k + 7) + i) * 11400714819323198485 = T
    omega
  have E := hid e; clear e
  go_enter Try.func47, Try.ntmps47
  go_wp2
  go_ret
  exact ⟨by rw [← E.out]; rfl, rfl⟩
end Go.Proofs.Ytknhfaplddgnlaa
