/- Lists of marks and of numbers that came in. -/
import Derived.Test.YtddejjmebokgiaaFrame
import Derived.Test.YtddejjmebokgiaaDkH
import Derived.Deep.Grids
namespace Go.Proofs.Ytddejjmebokgiaa
open Go.ChangeShapes Go.WideShapes Go.ChangeAt Go.RowKit
open Go.Deep (open_bools boolRow)
set_option linter.unusedVariables false
set_option linter.unusedSimpArgs false

theorem cells_bool : Try.prog.cellsOf 4 = 1 := by kernel_rfl
theorem bytes_bool : Try.prog.bytesOf 4 = 1 := by kernel_rfl
theorem cells_int : Try.prog.cellsOf 3 = 1 := by kernel_rfl
theorem bytes_int : Try.prog.bytesOf 3 = 8 := by kernel_rfl
def I64i (zs : List Int) : List Value := zs.map fun (z : Int) => Value.int .i64 z
theorem rd_of_cells {W : World} {x : Addr} {n : Nat} {vs : List Value} (hn : vs.length = n) (h : ∀ i (v : Value), vs[i]? = some v → W.cell? (x.add i) = some v) : RdV W (some x) vs := by
  intro hne
  have h0 := h 0 (vs[0]'(List.length_pos_iff.2 hne)) (List.getElem?_eq_getElem _)
  obtain ⟨b, off, spot⟩ := x
  have hspot : spot = none := by simpa [Addr.add] using World.cell?_spot h0
  subst hspot
  exact ⟨b, off, rfl, fun i u hu => by have := h i u hu; rwa [add_plain] at this⟩
theorem open_boolsW {H : Type} {enc : TypeId × Value → H} {W : World} {base : Nat} {a : Option Addr} {len cap : Nat} {d : DataW H} {ps : List MemPlace} {ts : List TypeId} {ds : List (DataW H)} {j : Nat}
    (hsz : (DataW.weightsEach Try.prog ts ds).all (· ≤ reachBytes) = true) (ht : ts[j]? = some 23) (hd : ds[j]? = some d)
    (h : DataW.Trod enc Try.prog W base (fun _ => true) true 23 (.slice a len cap) d ps) :
    ∃ ks : List Bool, len = ks.length ∧ ks.length ≤ 140737488351232 ∧ RdV W a (Bools ks) := by
  obtain ⟨fuel, hf⟩ := h
  rcases open_bools Try.underlying23 Try.underlying4 cells_bool hf with ⟨hcs, _⟩ | ⟨x, len', cap', B, hcs, _, hl, hm, hx, hcell⟩
  · simp [Value.cells] at hcs
    obtain ⟨rfl, rfl, rfl⟩ := hcs
    exact ⟨[], rfl, by simp, RdV.nil _ _⟩
  · simp [Value.cells] at hcs
    obtain ⟨rfl, rfl, rfl⟩ := hcs
    obtain ⟨hx, _⟩ := Prod.mk.inj hx
    have hx' : d = boolRow (some x) len cap B := hx
    subst hx'
    have z := sized_slice hsz ht (elems := (List.range len).map fun i => .lit (.bool (B i))) (spare := (List.range (cap - len)).map fun j => .lit (.bool (B (len + j)))) hd Try.underlying23
    rw [bytes_bool] at z
    simp only [List.length_map, List.length_range, reachBytes] at z
    refine ⟨(List.range len).map B, by simp, by simp; omega, rd_of_cells rfl (fun i v hv => ?_)⟩
    have hi : i < len := by have := (List.getElem?_eq_some_iff.1 hv).1; simpa [Bools] using this
    simp [Bools, hi] at hv
    subst hv
    exact hcell i (by omega)
theorem open_intsW {H : Type} {enc : TypeId × Value → H} {W : World} {base : Nat} {a : Option Addr} {len cap : Nat} {d : DataW H} {ps : List MemPlace} {ts : List TypeId} {ds : List (DataW H)} {j : Nat}
    (hsz : (DataW.weightsEach Try.prog ts ds).all (· ≤ reachBytes) = true) (ht : ts[j]? = some 22) (hd : ds[j]? = some d)
    (h : DataW.Trod enc Try.prog W base (fun _ => true) true 22 (.slice a len cap) d ps) :
    ∃ zs : List Int, len = zs.length ∧ zs.length ≤ 140737488351232 ∧ RdV W a (I64i zs) ∧ ∀ z ∈ zs, -9223372036854775808 ≤ z ∧ z ≤ 9223372036854775807 := by
  obtain ⟨fuel, hf⟩ := h
  rcases open_ints Try.underlying22 Try.underlying3 cells_int hf with ⟨hcs, _⟩ | ⟨x, len', cap', zs, hcs, _, hl, hm, hz, hx, hcell, hwz⟩
  · simp [Value.cells] at hcs
    obtain ⟨rfl, rfl, rfl⟩ := hcs
    exact ⟨[], rfl, by simp, RdV.nil _ _, by simp⟩
  · simp [Value.cells] at hcs
    obtain ⟨rfl, rfl, rfl⟩ := hcs
    obtain ⟨hx, _⟩ := Prod.mk.inj hx
    subst hx
    have hz2 : zs.length = cap := by simpa using hz
    have z := sized_slice hsz ht hd Try.underlying22
    rw [bytes_int] at z
    simp only [lits, List.length_map, List.length_take, List.length_drop, reachBytes] at z
    refine ⟨zs.take len, by simp; omega, by simp; omega, rd_of_cells rfl (fun i v hv => ?_), fun y hy => ?_⟩
    · have hi : i < len := by have := (List.getElem?_eq_some_iff.1 hv).1; simp [I64i] at this; omega
      have hzi : i < zs.length := by omega
      simp only [I64i, List.getElem?_map, List.getElem?_take, if_pos hi, List.getElem?_eq_getElem hzi, Option.map_some, Option.some.injEq] at hv
      subst hv
      rw [hcell i hzi]
      simp [List.getD_eq_getElem?_getD, List.getElem?_eq_getElem hzi]
    · have hw := hwz y (List.mem_of_mem_take hy)
      simp only [Lit.wf, Bool.and_eq_true, decide_eq_true_eq] at hw
      exact hw
end Go.Proofs.Ytddejjmebokgiaa
