/- Numbers that came in. -/
import Derived.Test.YtknhfaplddgnlaaFrame8
import Derived.Test.YtknhfaplddgnlaaWhole2
namespace Go.Proofs.Ytknhfaplddgnlaa
open Go.ChangeShapes Go.WideShapes Go.ChangeAt Go.RowKit Go.Deep
set_option linter.unusedVariables false
set_option linter.unusedSimpArgs false

theorem bytes_i9 : Try.prog.bytesOf 3 = 8 := by kernel_rfl
section
variable {H : Type} {enc : TypeId × Value → H} {W : World} {base : Nat}
theorem open_nums {d : DataW H} {ps : List MemPlace} {ts : List TypeId} {ds : List (DataW H)} {j : Nat} {a : Option Addr} {len cap : Nat}
    (hsz : (DataW.weightsEach Try.prog ts ds).all (· ≤ reachBytes) = true) (ht : ts[j]? = some 50) (hd : ds[j]? = some d)
    (h : DataW.Trod enc Try.prog W base (fun _ => true) true 50 (.slice a len cap) d ps) :
    ∃ l : List Int, len = l.length ∧ (∀ z ∈ l, -9223372036854775808 ≤ z ∧ z ≤ 9223372036854775807) ∧ RdI W a l := by
  have h1 := opens_arg (opens_slice Try.underlying50 cells_i8 bytes_i9 (by decide) (opens_i64 Try.underlying3)) hsz ht hd h
  obtain ⟨a', cap', l, hcs, g1, g2, g3, g4⟩ := slr_list (fun y : Int => [Value.int .i64 y]) (fun y => -9223372036854775808 ≤ y ∧ y ≤ 9223372036854775807) (fun es ⟨n, e, e1⟩ => ⟨n, e, e1⟩) h1
  simp [Value.cells] at hcs
  obtain ⟨rfl, rfl, rfl⟩ := hcs
  refine ⟨l, rfl, fun z hz => ?_, fun i z hz => ?_⟩
  · obtain ⟨i, hi, rfl⟩ := List.getElem_of_mem hz
    exact (g4 i _ (List.getElem?_eq_getElem hi)).1
  · obtain ⟨_, _, b, off, ea, hc⟩ := g4 i z hz
    have := hc 0 _ rfl
    rw [Nat.mul_one] at this
    exact ⟨b, off, ea, this⟩
end
end Go.Proofs.Ytknhfaplddgnlaa
