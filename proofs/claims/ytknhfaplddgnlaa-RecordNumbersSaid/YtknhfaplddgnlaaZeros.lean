/- append of so many noughts on bytes (the number stands in the place of a slice). -/
import Derived.Test.YtknhfaplddgnlaaBase
import Derived.Lib.AppendZerosOnto
namespace Go.Proofs.Ytknhfaplddgnlaa
open Go.RowKit
set_option linter.unusedVariables false

theorem zero_cells (m : Nat) : Builtin.zeroCells (Value.int .u8 0).cells m = (B8s (zeros m)).toArray := by
  have h : Builtin.zeroCells (Value.int .u8 0).cells m = madeCells (Value.int .u8 0).cells m := by
    unfold Builtin.zeroCells madeCells
    simp [Value.cells]
  rw [h]
  apply Array.ext'
  exact made_zeros m
theorem run_app_zeros {W : World} (ty : TypeId) (base : Nat) (v : Value) (n : Nat) (l : List UInt8) (HO : W.ownsRow base 5 1 v n (B8s l)) (m : Nat)
    (hbytes : n + m ≤ 100000000000000) (hbase : base ≤ W.heap.size) :
    ∃ v1 w1, (Builtin.append_ #[31, 3] ty #[v, .int .i64 (m : Int)]).run Try.prog W = .ok v1 w1 ∧ w1.ownsRow base 5 1 v1 (n + m) (B8s l ++ B8s (zeros m)) ∧ W.grownBy w1 v.ownBlock ∧ (v1.ownBlock = v.ownBlock ∨ v1.ownBlock = some W.heap.size) := by
  obtain ⟨i0, hi, hz0, hz1, hz2⟩ := info_parts info_u8
  have ht := Try.underlying31
  have hti := Try.underlying3
  have hl : (B8s (zeros m)).length = m * 1 := by simp [B8s, zeros]
  have hw : IntKind.i64.wrap (m : Int) = m := by rw [IntKind.wrap_i64]; omega
  have hw0 : IntKind.i64.wrap 0 = 0 := by rw [IntKind.wrap_i64]; rfl
  have hneg : ¬ ((m : Int) < 0) := by omega
  have hbig : ¬ (281474976710656 < (m : Int) * ((1 : Nat) : Int)) := by omega
  by_cases h0 : m = 0
  · subst h0
    have e0 : B8s (zeros 0) = [] := rfl
    refine ⟨v, W, ?_, by rw [e0]; simpa using HO, World.grownBy.refl W _, .inl rfl⟩
    rcases HO.2 with ⟨rfl, rfl⟩ | ⟨g, cap, cur, rfl, hbg, hg, hnc, hcm, hcs, htake⟩
    · simp [Builtin.append_, run_underlying ht, run_underlying hti, sizeOf, typeInfo, hi, asInt, asIntOf, hw0]
    · simp [Builtin.append_, run_underlying ht, run_underlying hti, sizeOf, typeInfo, hi, asInt, asIntOf, hw0, hnc, storeCells]
  · rcases HO.2 with ⟨rfl, rfl⟩ | ⟨g, cap, cur, rfl, hbg, hg, hnc, hcm, hcs, htake⟩
    · have hx : B8s l = [] := List.eq_nil_of_length_eq_zero (by simpa using HO.1)
      rw [hx]
      have hr := Lib.run_append_nil_zeros (P := Try.prog) W 31 3 ty 5 i0 (.int .u8 0) .i64 .i64 ht hti hi hz0 m (by omega) (by omega) (by omega) (by rw [hz2]; omega)
      rw [zero_cells] at hr
      refine ⟨_, _, hr, ?_, grown_new W _ _, .inr rfl⟩
      have := own_grown (W := W) (base := base) (e := 5) (size := 1) (z := .int .u8 0) (n := m) hl rfl (grownCap_ge W m 0 5) (grownCap_le_maxLen W m 0 5 (by simp only [maxLen]; omega)) hbase
      simpa using this
    · by_cases hroom : n + m ≤ cap
      · have hst := run_storeCells_at Try.prog g (n * i0.size) 5 (B8s (zeros m)) 0 cur W hg (by rw [hl, hz1]; omega) (B8s_one _)
        simp only [Nat.add_zero] at hst
        have ho := own_room (m := m) hg hbg hcm hcs htake hl hroom
        refine ⟨.slice (some ⟨g, 0, none⟩) (n + m) cap, _, ?_, ho.1, ho.2, .inl rfl⟩
        have hmz : ¬ (m * i0.size = 0) := by rw [hz1]; omega
        have hbig' : ¬ (281474976710656 < (m : Int) * (i0.bytes : Int)) := by rw [hz2]; exact hbig
        rw [hz1] at hst
        simp only [Nat.mul_one] at hst
        simp [Builtin.append_, run_underlying ht, run_underlying hti, sizeOf, typeInfo, zeroValue, hi, hz0, hz1, asInt, asIntOf, hw, hneg, hbig', hroom, h0, zero_cells, Addr.add_lit, hst]
      · have holds : ∀ j u, (B8s l)[j]? = some u → W.cell? ((⟨g, 0, none⟩ : Addr).add j) = some u := HO.cells (g := g) rfl
        have hlen : (B8s l).length = n * i0.size := by rw [hz1]; exact HO.1
        have hr := Lib.run_append_grow_zeros (P := Try.prog) W 31 3 ty 5 i0 (.int .u8 0) .i64 .i64 ht hti hi hz0 (some ⟨g, 0, none⟩) n cap (B8s l) (run_firstCells_some (P := Try.prog) W.drew i0.size n _ n cap (B8s l) hlen (by simpa using holds))
          m (by omega) (by omega) (by omega) (by omega) (by rw [hz2]; omega) (growslice_fits_wide (by omega) (by rw [hz2]; omega))
        rw [zero_cells] at hr
        refine ⟨_, _, hr, ?_, grown_new W _ _, .inr rfl⟩
        have := own_grown (W := W) (base := base) (e := 5) (size := 1) (z := .int .u8 0) (n := n + m) (xs := B8s l ++ B8s (zeros m)) (by rw [List.length_append, HO.1, hl, Nat.add_mul]) rfl (grownCap_ge W (n + m) cap 5) (grownCap_le_maxLen W (n + m) cap 5 (by simp only [maxLen]; omega)) hbase
        simpa using this
/-- append of noughts on bytes. -/
theorem app_zeros {ops : Array Oper} {rest : List Oper} {o : Oper} {a : Act} {Q : Exit → Act → World → Prop} {W : World} (hgd : o.guard = none) (s x : Operand)
    (ho : o.op = .call { callee := .builtin .append, args := #[s, x], argTypes := #[31, 3] })
    (base : Nat) (A0 : Option Addr) (c0 n0 : Nat) (l : List UInt8) (hn0 : n0 = l.length) (hs : a.eval s = .slice A0 n0 c0) (HO : OwnB base W A0 c0 l)
    (m : Nat) (y : Int) (hy : y = (m : Int)) (hx : a.eval x = .int .i64 y)
    (n1 : Nat) (hn1 : n1 = l.length + m) (hbytes : l.length + m ≤ 100000000000000) (w0 : World) (hB : Below base w0 W) (hbase : base ≤ W.heap.size)
    (h : ∀ A1 c1 w1, OwnB base w1 A1 c1 (l ++ zeros m) → Below base w0 w1 → wpList Try.prog ops Q rest (a.put o.dst (.slice A1 n1 c1)) w1) :
    wpList Try.prog ops Q (o :: rest) a W := by
  subst hn0 hn1 hy
  obtain ⟨v1, w1, hr, h1, h2, _⟩ := run_app_zeros (W := W) o.type base _ l.length l HO m hbytes hbase
  obtain ⟨A1, c1, rfl, _⟩ := own_slice h1
  refine wpList_plain hgd fun K hK => ?_
  unfold Oper.wp execOp
  simp only [ho, resolve, invoke, builtin, Sem.run_bind, Sem.run_pure, Result.andThen_ok, List.map_toArray, List.map_cons, List.map_nil, hs, hx, hr]
  refine hK _ _ (h A1 c1 w1 ?_ (hB.grown h2 hbase (own_base HO)))
  unfold OwnB
  rw [List.length_append, B8s_append, zeros_length]
  exact h1
end Go.Proofs.Ytknhfaplddgnlaa
