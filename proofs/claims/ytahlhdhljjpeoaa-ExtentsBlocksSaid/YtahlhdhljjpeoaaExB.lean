/- slices.Insert and slices.Delete on extents of the call's own. -/
import Derived.Test.YtahlhdhljjpeoaaExA
import Derived.Lib.Overlaps
import Derived.Laws.Externs
import Derived.Deep.RegionLaw
import Derived.Lib.AppendZerosOnto
namespace Go.Proofs.Ytahlhdhljjpeoaa
open Go.RowKit
set_option maxHeartbeats 3200000
set_option maxRecDepth 100000
set_option linter.unusedVariables false
set_option linter.unusedSimpArgs false

/-- A row of extents, whole. -/
structure RowX (w : World) (g cap : Nat) (cur : List Value) (l : List Ext) : Prop where
  row : w.heap[g]? = some (.cells cur.toArray 24 (0, 0))
  len : cur.length = cap * 3
  pre : cur.take (l.length * 3) = extCells l
  le : l.length ≤ cap
  max : cap ≤ maxLen
theorem OwnX.row {base g c : Nat} {w : World} {l : List Ext} (h : OwnX base w (some ⟨g, 0, none⟩) c l) : base ≤ g ∧ ∃ cur, RowX w g c cur l := by
  rcases h.2 with ⟨hv, _⟩ | ⟨g', cap, cur, hv, hb, hg, hn, hm, hs, ht⟩
  · simp at hv
  · simp only [Value.slice.injEq, Option.some.injEq, Addr.mk.injEq, and_true, true_and] at hv
    obtain ⟨rfl, rfl⟩ := hv
    exact ⟨hb, cur.toList, ⟨by simpa using hg, by simpa using hs, ht, hn, hm⟩⟩
theorem RowX.own {base g c : Nat} {w : World} {cur : List Value} {l : List Ext} (h : RowX w g c cur l) (hb : base ≤ g) : OwnX base w (some ⟨g, 0, none⟩) c l :=
  ⟨by rw [extCells_length]; omega, .inr ⟨g, c, cur.toArray, rfl, hb, h.row, h.le, h.max, by simpa using h.len, by simpa using h.pre⟩⟩
theorem RowX.cell {w : World} {g c : Nat} {cur : List Value} {l : List Ext} (h : RowX w g c cur l) (j : Nat) (u : Value) (hu : cur[j]? = some u) : w.cell? ⟨g, j, none⟩ = some u := by
  rw [cell_of_row _ _ _ _ _ _ h.row]
  simpa using hu
theorem extCells_drop (l : List Ext) : ∀ i, i ≤ l.length → extCells (l.drop i) = (extCells l).drop (i * 3) := by
  induction l with
  | nil => intro i _; simp [extCells]
  | cons x l ih =>
    intro i hi
    cases i with
    | zero => simp
    | succ i =>
      rw [List.drop_succ_cons, ih i (by simpa using hi), extCells, List.drop_append]
      have : x.cells.length = 3 := rfl
      have d0 : x.cells.drop ((i + 1) * 3) = [] := List.drop_eq_nil_of_le (by rw [this]; omega)
      rw [this, d0, List.nil_append, show (i + 1) * 3 - 3 = i * 3 by omega]
theorem extCells_take (l : List Ext) : ∀ i, i ≤ l.length → extCells (l.take i) = (extCells l).take (i * 3) := by
  induction l with
  | nil => intro i _; simp [extCells]
  | cons x l ih =>
    intro i hi
    cases i with
    | zero => simp [extCells]
    | succ i =>
      rw [List.take_succ_cons, extCells, ih i (by simpa using hi), extCells, List.take_append]
      have : x.cells.length = 3 := rfl
      have d0 : x.cells.take ((i + 1) * 3) = x.cells := List.take_of_length_le (by rw [this]; omega)
      rw [this, d0, show (i + 1) * 3 - 3 = i * 3 by omega]
/-- The cells from an extent on. -/
theorem RowX.at_drop {w : World} {g c : Nat} {cur : List Value} {l : List Ext} (h : RowX w g c cur l) (i : Nat) (hi : i ≤ l.length) : ∀ (j : Nat) (u : Value), (extCells (l.drop i))[j]? = some u → w.cell? ⟨g, i * 3 + j, none⟩ = some u := by
  intro j u hu
  refine h.cell _ _ ?_
  have hj : j < (extCells (l.drop i)).length := (List.getElem?_eq_some_iff.1 hu).1
  rw [extCells_length, List.length_drop] at hj
  rw [extCells_drop l i hi, ← h.pre, List.getElem?_drop, List.getElem?_take, if_pos (by omega)] at hu
  exact hu
section
variable {P : Program} {ops : Array Oper} {rest : List Oper} {o : Oper} {a : Act} {Q : Exit → Act → World → Prop} {K : Act → World → Prop} {E : Prop} {W : World}
/-- copy, elements of any size: into a row that is known whole. -/
theorem run_copy_cells (w : World) (dT sT ty elem : TypeId) (size g o dLen dCap : Nat) (a : Addr) (sLen sCap : Nat) (cur : Array Value) (t : TypeId) (cs : List Value)
    (hu : P.underlying dT = some (.slice elem)) (hs : (P.info? elem).map (·.size) = some size)
    (hg : w.heap[g]? = some (.cells cur t (0, 0))) (hn : cs.length = Nat.min sLen dLen * size)
    (hsrc : ∀ j v, cs[j]? = some v → w.cell? (a.add j) = some v) (hfit : o + cs.length ≤ cur.size) (h1 : ∀ v ∈ cs, v.oneCell' = true) :
    (Builtin.copy_ #[dT, sT] ty #[.slice (some ⟨g, o, none⟩) dLen dCap, .slice (some a) sLen sCap]).run P w =
      .ok (goInt (Nat.min sLen dLen : Nat)) (w.setRow g (cur.toList.take o ++ cs ++ cur.toList.drop (o + cs.length)).toArray) := by
  have hl := run_loadCells_list (P := P) w a cs hsrc
  have hst := run_storeCells_at P g o t cs 0 cur w hg (by simpa using hfit) h1
  cases hq : P.info? elem with
  | none => simp [hq] at hs
  | some i =>
    have hi : i.size = size := by simpa [hq] using hs
    simp [Builtin.copy_, run_underlying hu, Builtin.lenOf, Builtin.firstCells, sizeOf, typeInfo, hq, hi, ← hn, hl, hst]
/-- copy of extents. -/
theorem copyX (hgd : o.guard = none) (d s : Operand)
    (ho : o.op = .call { callee := .builtin .copy, args := #[d, s], argTypes := #[22, 22] })
    (g off dLen dCap : Nat) (hd : a.eval d = .slice (some ⟨g, off, none⟩) dLen dCap) (b so sLen sCap : Nat) (hs : a.eval s = .slice (some ⟨b, so, none⟩) sLen sCap)
    (cur : List Value) (hg : W.heap[g]? = some (.cells cur.toArray 24 (0, 0))) (cs : List Value) (hn : cs.length = Nat.min sLen dLen * 3)
    (hsrc : ∀ j v, cs[j]? = some v → W.cell? ⟨b, so + j, none⟩ = some v) (hfit : off + cs.length ≤ cur.length) (h1 : ∀ v ∈ cs, v.oneCell' = true)
    (h : ∀ w', w' = W.setRow g (cur.take off ++ cs ++ cur.drop (off + cs.length)).toArray → wpList Try.prog ops Q rest (a.put o.dst (goInt (Nat.min sLen dLen : Nat))) w') : wpList Try.prog ops Q (o :: rest) a W := by
  obtain ⟨i0, hi, hz0, hz1, hz2⟩ := info_parts info_ext
  have hrun := run_copy_cells (P := Try.prog) W 22 22 o.type 24 3 g off dLen dCap ⟨b, so, none⟩ sLen sCap cur.toArray _ cs Try.underlying22 (by rw [hi]; simp [hz1]) hg hn (fun j v hv => by rw [add_plain]; exact hsrc j v hv) (by simpa using hfit) h1
  refine wpList_plain hgd fun K hK => ?_
  unfold Oper.wp
  simp [execOp, ho, resolve, invoke, builtin, hd, hs, hrun, Result.andThen]
  exact hK _ _ (h _ (by simp))
theorem run_copyX (W : World) (g off dLen dCap : Nat) (b so sLen sCap : Nat)
    (cur : List Value) (hg : W.heap[g]? = some (.cells cur.toArray 24 (0, 0))) (cs : List Value) (hn : cs.length = Nat.min sLen dLen * 3)
    (hsrc : ∀ j v, cs[j]? = some v → W.cell? ⟨b, so + j, none⟩ = some v) (hfit : off + cs.length ≤ cur.length) (h1 : ∀ v ∈ cs, v.oneCell' = true) :
    (Builtin.copy_ #[22, 22] 3 #[.slice (some ⟨g, off, none⟩) dLen dCap, .slice (some ⟨b, so, none⟩) sLen sCap]).run Try.prog W = .ok (goInt (Nat.min sLen dLen : Nat)) (W.setRow g (cur.take off ++ cs ++ cur.drop (off + cs.length)).toArray) := by
  obtain ⟨i0, hi, hz0, hz1, hz2⟩ := info_parts info_ext
  have hrun := run_copy_cells (P := Try.prog) W 22 22 3 24 3 g off dLen dCap ⟨b, so, none⟩ sLen sCap cur.toArray _ cs Try.underlying22 (by rw [hi]; simp [hz1]) hg hn (fun j v hv => by rw [add_plain]; exact hsrc j v hv) (by simpa using hfit) h1
  simpa using hrun
theorem step_copyX (hgd : o.guard = none) (d s : Operand)
    (ho : o.op = .call { callee := .builtin .copy, args := #[d, s], argTypes := #[22, 22] })
    (g off dLen dCap : Nat) (hd : a.eval d = .slice (some ⟨g, off, none⟩) dLen dCap) (b so sLen sCap : Nat) (hs : a.eval s = .slice (some ⟨b, so, none⟩) sLen sCap)
    (cur : List Value) (hg : W.heap[g]? = some (.cells cur.toArray 24 (0, 0))) (cs : List Value) (hn : cs.length = Nat.min sLen dLen * 3)
    (hsrc : ∀ j v, cs[j]? = some v → W.cell? ⟨b, so + j, none⟩ = some v) (hfit : off + cs.length ≤ cur.length) (h1 : ∀ v ∈ cs, v.oneCell' = true)
    (h : ∀ w', w' = W.setRow g (cur.take off ++ cs ++ cur.drop (off + cs.length)).toArray → K (a.put o.dst (goInt (Nat.min sLen dLen : Nat))) w') : if Region.wanted o (yielded ops a.tmps) = true then Oper.wp Try.prog o a W K Q else E := by
  have hw : Region.wanted o (yielded ops a.tmps) = true := by simp [Region.wanted, hgd]
  rw [if_pos hw]
  obtain ⟨i0, hi, hz0, hz1, hz2⟩ := info_parts info_ext
  have hrun := run_copy_cells (P := Try.prog) W 22 22 o.type 24 3 g off dLen dCap ⟨b, so, none⟩ sLen sCap cur.toArray _ cs Try.underlying22 (by rw [hi]; simp [hz1]) hg hn (fun j v hv => by rw [add_plain]; exact hsrc j v hv) (by simpa using hfit) h1
  unfold Oper.wp
  simp [execOp, ho, resolve, invoke, builtin, hd, hs, hrun, Result.andThen]
  exact h _ (by simp)
end
theorem setRow_is {w : World} {g : Nat} {cur : List Value} {t : TypeId} {X : Array Value} (h : w.heap[g]? = some (.cells cur.toArray t (0, 0))) : (w.setRow g X).heap[g]? = some (.cells X t (0, 0)) := setRow_heap w g _ _ _ _ h
theorem setRow_below {B g : Nat} {w0 w : World} (hb : Below B w0 w) (hBg : B ≤ g) (X : Array Value) : Below B w0 (w.setRow g X) := below_setRow hb hBg X
/-- 'append(s, make(.., k)...)' where there is no room. -/
theorem appX_zeros {ops : Array Oper} {rest : List Oper} {o : Oper} {a : Act} {Q : Exit → Act → World → Prop} {W : World} (hgd : o.guard = none) (s x : Operand)
    (ho : o.op = .call { callee := .builtin .append, args := #[s, x], argTypes := #[22, 3] })
    (g i c : Nat) (l : List Ext) (hs : a.eval s = .slice (some ⟨g, 0, none⟩) i c) (hi : i = l.length) (hc : ∀ (j : Nat) (u : Value), (extCells l)[j]? = some u → W.cell? ⟨g, j, none⟩ = some u)
    (k : Nat) (hx : a.eval x = .int .i64 (k : Int)) (hk : 0 < k) (hroom : c < i + k) (hbig : i + k ≤ 2000000)
    (h : ∀ (cap : Nat) (Z : List Value) (w1 : World), w1.heap[W.heap.size]? = some (.cells (extCells l ++ Z).toArray 24 (0, 0)) → i + k ≤ cap → cap ≤ maxLen → (extCells l ++ Z).length = cap * 3 → Below W.heap.size W w1 → w1.heap.size = W.heap.size + 1 →
      wpList Try.prog ops Q rest (a.put o.dst (.slice (some ⟨W.heap.size, 0, none⟩) (i + k) cap)) w1) : wpList Try.prog ops Q (o :: rest) a W := by
  obtain ⟨i0, hi0, hz0, hz1, hz2⟩ := info_parts info_ext
  have hold : (Builtin.firstCells i0.size i (.slice (some ⟨g, 0, none⟩) i c)).run Try.prog W.drew = .ok (extCells l).toArray W.drew :=
    run_firstCells_some (P := Try.prog) W.drew i0.size i _ i c (extCells l) (by rw [extCells_length, hz1, hi]; omega) (fun j u hu => by rw [add_plain, Nat.zero_add]; exact hc j u hu)
  have hr := Lib.run_append_grow_zeros (P := Try.prog) W 22 3 o.type 24 i0 (.agg #[.int .i64 0, .int .i64 0, .int .i64 0]) .i64 .i64 Try.underlying22 Try.underlying3 hi0 hz0 (some ⟨g, 0, none⟩) i c (extCells l) hold
    k hk (by omega) hroom (by omega) (by rw [hz2]; omega) (growslice_fits_wide hroom (by rw [hz2]; omega))
  have hG := grownCap_ge W (i + k) c 24
  have hM := grownCap_le_maxLen W (i + k) c 24 (by simp only [maxLen]; omega)
  generalize grownCap W (i + k) c 24 = G at *
  refine wpList_plain hgd fun K hK => ?_
  unfold Oper.wp execOp
  simp only [ho, resolve, invoke, builtin, Sem.run_bind, Sem.run_pure, Result.andThen_ok, List.map_toArray, List.map_cons, List.map_nil, hs, hx, hr]
  refine hK _ _ (h G ((Builtin.zeroCells (Value.agg #[.int .i64 0, .int .i64 0, .int .i64 0]).cells k).toList ++ (Builtin.zeroCells (Value.agg #[.int .i64 0, .int .i64 0, .int .i64 0]).cells (G - (i + k))).toList) _ ?_ hG hM ?_ ?_ (by simp))
  · have := heap_alloc_new W.drew (.cells ((extCells l).toArray ++ Builtin.zeroCells (Value.agg #[.int .i64 0, .int .i64 0, .int .i64 0]).cells k ++ Builtin.zeroCells (Value.agg #[.int .i64 0, .int .i64 0, .int .i64 0]).cells (G - (i + k))) 24)
    rw [show W.drew.heap.size = W.heap.size from rfl] at this
    rw [this]
    congr 2
    apply Array.ext'
    simp
  · simp only [List.length_append, Array.length_toList, size_zeroCells, extCells_length]
    have e : (Value.agg #[.int .i64 0, .int .i64 0, .int .i64 0]).cells.size = 3 := rfl
    rw [e]
    omega
  · exact below_new W _
end Go.Proofs.Ytahlhdhljjpeoaa
