/- A script for a disk that came in. -/
import Derived.Test.YtddejjmebokgiaaFrame5
import Derived.Test.YtddejjmebokgiaaLaw04q
namespace Go.Proofs.Ytddejjmebokgiaa
open Go.ChangeShapes Go.WideShapes Go.ChangeAt Go.RowKit Go.Deep
set_option linter.unusedVariables false
set_option linter.unusedSimpArgs false

theorem cells_boolF : Try.prog.cellsOf 4 = 1 := by kernel_rfl
theorem bytes_boolF : Try.prog.bytesOf 4 = 1 := by kernel_rfl
theorem cells_intF : Try.prog.cellsOf 3 = 1 := by kernel_rfl
theorem cells_u8F : Try.prog.cellsOf 5 = 1 := by kernel_rfl
theorem cells_boolsF : Try.prog.cellsOf 23 = 1 := by kernel_rfl
theorem cells_Op : Try.prog.cellsOf 63 = 6 := by kernel_rfl
theorem bytes_Op : Try.prog.bytesOf 63 = 64 := by kernel_rfl
def Opr.cells (o : Opr) : List Value := [.int .i64 o.k, .int .i64 o.n, .int .i64 o.sz, .int .i64 o.b, .slice o.ka o.ks.length o.kc, .int .u8 (o.s : Int)]
section
variable {H : Type} {enc : TypeId × Value → H} {W : World} {base : Nat}
theorem six_list {cs : List Value} (h : cs.length = 6) : ∃ a b c d e f, cs = [a, b, c, d, e, f] := by
  match cs, h with
  | [a, b, c, d, e, f], _ => exact ⟨a, b, c, d, e, f, rfl⟩
def opR (W : World) : Nat → List Value → Prop
  | 0 | 1 | 2 | 3 => fun cs => ∃ n : Int, cs = [.int .i64 n] ∧ -9223372036854775808 ≤ n ∧ n ≤ 9223372036854775807
  | 4 => fun cs => ∃ (a : Option Addr) (cap : Nat) (l : List Bool), cs = [.slice a l.length cap] ∧ l.length ≤ cap ∧ cap ≤ maxLen ∧ l.length ≤ 140737488351232 ∧ RdV W a (l.map .bool)
  | _ => fun cs => ∃ n : Nat, cs = [.int .u8 (n : Int)] ∧ n < 256
theorem opens_Op : Opens enc W base 63 (fun cs => ∃ o : Opr, cs = o.cells ∧ o.ok W) := by
  have h := opens_struct (enc := enc) (W := W) (base := base) Try.underlying63 cells_Op (opR W) (by
    intro i f hf
    match i, hf with
    | 0, hf => cases hf; exact opens_i64 Try.underlying3
    | 1, hf => cases hf; exact opens_i64 Try.underlying3
    | 2, hf => cases hf; exact opens_i64 Try.underlying3
    | 3, hf => cases hf; exact opens_i64 Try.underlying3
    | 4, hf => cases hf; exact opens_bools Try.underlying23 Try.underlying4 cells_boolF bytes_boolF
    | 5, hf => cases hf; exact opens_u8 Try.underlying5
    | i + 6, hf => simp at hf)
  refine h.mono ?_
  rintro cs ⟨hl, hf⟩
  obtain ⟨a, b, c, d, e, f, rfl⟩ := six_list hl
  obtain ⟨k, h0, _⟩ := hf 0 _ rfl
  obtain ⟨n, h1, _, n2⟩ := hf 1 _ rfl
  obtain ⟨sz, h2, _⟩ := hf 2 _ rfl
  obtain ⟨bb, h3, _⟩ := hf 3 _ rfl
  obtain ⟨ka, kc, ks, h4, _, _, k2, k3⟩ := hf 4 _ rfl
  obtain ⟨s, h5, s2⟩ := hf 5 _ rfl
  simp [cells_intF, cells_boolsF, cells_u8F] at h0 h1 h2 h3 h4 h5
  subst h0 h1 h2 h3 h4 h5
  exact ⟨⟨k, n, sz, bb, ks, ka, kc, s⟩, rfl, s2, by simp only; omega, k3, n2⟩
/-- A script that came in. -/
theorem open_ops {d : DataW H} {ps : List MemPlace} {ts : List TypeId} {ds : List (DataW H)} {j : Nat} {a : Option Addr} {len cap : Nat}
    (hsz : (DataW.weightsEach Try.prog ts ds).all (· ≤ reachBytes) = true) (ht : ts[j]? = some 55) (hd : ds[j]? = some d)
    (h : DataW.Trod enc Try.prog W base (fun _ => true) true 55 (.slice a len cap) d ps) :
    ∃ l : List Opr, len = l.length ∧ l.length ≤ 140737488351232 ∧ RdO W a l := by
  have h1 := opens_arg (opens_slice Try.underlying55 cells_Op bytes_Op (by decide) opens_Op) hsz ht hd h
  obtain ⟨a', cap', l, hcs, g1, g2, g3, g4⟩ := slr_list Opr.cells (Opr.ok W) (fun es hes => hes) h1
  simp [Value.cells] at hcs
  obtain ⟨rfl, rfl, rfl⟩ := hcs
  refine ⟨l, rfl, ?_, fun i hi => ?_⟩
  · have : reachBytes < 2 ^ 47 := reachBytes_lt
    have e : (2 : Nat) ^ 47 = 140737488355328 := by decide
    omega
  · have e : l.getD i op0 = l[i] := by rw [List.getD_eq_getElem?_getD, List.getElem?_eq_getElem hi]; rfl
    obtain ⟨q1, _, b, off, q2, q3⟩ := g4 i _ (List.getElem?_eq_getElem hi)
    rw [e]
    exact ⟨b, off, q2, q3 0 _ rfl, q3 1 _ rfl, q3 2 _ rfl, q3 3 _ rfl, q3 4 _ rfl, q3 5 _ rfl, q1⟩
end
end Go.Proofs.Ytddejjmebokgiaa
