/- How structs of numbers that came in are opened, and shut, for the rows. -/
import Derived.Test.YtahlhdhljjpeoaaFrame
import Derived.Deep.Fields
import Derived.Lib.SmallJoins
namespace Go.Proofs.Ytahlhdhljjpeoaa
open Go.ChangeShapes Go.WideShapes Go.ChangeAt Go.RowKit Go.Deep
set_option linter.unusedVariables false
section
variable {H : Type} {enc : TypeId × Value → H} {P : Program} {w : World} {base : Nat} {spare : Nat → Bool} {held : Bool}
def numOf : Value → Int
  | .int _ n => n
  | _ => 0
def in63 (n : Int) : Prop := -9223372036854775808 ≤ n ∧ n ≤ 9223372036854775807
theorem wf63 {n : Int} : (Lit.int .i64 n).wf = true ↔ in63 n := by
  have h1 : IntKind.i64.min = -9223372036854775808 := rfl
  have h2 : IntKind.i64.max = 9223372036854775807 := rfl
  simp [Lit.wf, in63, h1, h2]
/-- A struct of ints: what it reads as. -/
theorem trod_iagg {t T : TypeId} {fs : Array Field} {fuel : Nat} {cs : List Value} {x : DataW H × List MemPlace} (hs : P.underlying t = some (.struct fs)) (hone : oneCellFields P fs = true) (hC : P.cellsOf t = fs.size)
    (hk : fs.all (fun f => f.type == T) = true) (hT : P.underlying T = some (.int .i64)) (h : DataW.trod enc P w base spare held fuel t cs = some x) :
    ∃ ns : List Int, cs = ns.map (Value.int .i64) ∧ ns.length = fs.size ∧ x = (.agg (ns.map fun n => .lit (.int .i64 n)), []) ∧ ∀ n ∈ ns, in63 n := by
  obtain ⟨xs, n, _, rfl, hl, hlen, hf⟩ := DataW.trod_struct hs h
  have key : ∀ i (hi : i < fs.size), ∃ m : Int, cs[i]? = some (.int .i64 m) ∧ xs[i]? = some (.lit (.int .i64 m), []) ∧ in63 m := by
    intro i hi
    have hfi : fs[i]? = some fs[i] := Array.getElem?_eq_getElem hi
    obtain ⟨ho, hc⟩ := hone_of hone i _ hfi
    have ht : fs[i].type = T := by
      have := Array.all_eq_true.1 hk i hi
      simpa using this
    have h1 := hf i _ hfi
    have hci : i < cs.length := by omega
    rw [ho, hc, ht, show (cs.drop i).take 1 = [cs[i]] by rw [List.drop_eq_getElem_cons hci]; rfl] at h1
    have hxi : xs[i]? = some xs[i] := List.getElem?_eq_getElem (by omega)
    rw [hxi] at h1
    obtain ⟨m, e1, e2, e3⟩ := DataW.trod_int hT h1
    refine ⟨m, ?_, ?_, wf63.1 e3⟩
    · rw [List.getElem?_eq_getElem hci]; simpa using e1
    · rw [hxi, e2]
  refine ⟨cs.map numOf, ?_, by rw [List.length_map]; omega, ?_, ?_⟩
  · apply List.ext_getElem?
    intro i
    rcases Nat.lt_or_ge i fs.size with hi | hi
    · obtain ⟨m, e1, _, _⟩ := key i hi
      simp [e1, numOf]
    · rw [List.getElem?_eq_none (by omega), List.getElem?_eq_none (by simp; omega)]
  · have hx : xs = (cs.map numOf).map fun n => (.lit (.int .i64 n), []) := by
      apply List.ext_getElem?
      intro i
      rcases Nat.lt_or_ge i fs.size with hi | hi
      · obtain ⟨m, e1, e2, _⟩ := key i hi
        simp [e1, e2, numOf]
      · rw [List.getElem?_eq_none (by omega), List.getElem?_eq_none (by simp; omega)]
    rw [hx]
    refine Prod.ext ?_ ?_
    · simp [Function.comp_def]
    · simp
  · intro n hn
    obtain ⟨v, hv, rfl⟩ := List.mem_map.1 hn
    obtain ⟨i, hi, rfl⟩ := List.getElem_of_mem hv
    obtain ⟨m, e1, _, e3⟩ := key i (by omega)
    rw [List.getElem?_eq_getElem hi] at e1
    rw [Option.some.inj e1]
    exact e3
theorem mapM_all {α β : Type} {f : α → Option β} {g : α → β} : ∀ {l : List α}, (∀ a ∈ l, f a = some (g a)) → l.mapM f = some (l.map g)
  | [], _ => rfl
  | a :: l, h => by
    rw [List.mapM_cons, h a (by simp), mapM_all (fun b hb => h b (by simp [hb]))]
    rfl
theorem trod_iagg_mk {t T : TypeId} {fs : Array Field} {ns : List Int} (hs : P.underlying t = some (.struct fs)) (hone : oneCellFields P fs = true) (hC : P.cellsOf t = fs.size)
    (hk : fs.all (fun f => f.type == T) = true) (hT : P.underlying T = some (.int .i64)) (hl : ns.length = fs.size) (hn : ∀ n ∈ ns, in63 n) :
    DataW.trod enc P w base spare held 2 t (ns.map (Value.int .i64)) = some (.agg (ns.map fun n => .lit (.int .i64 n)), []) := by
  have hm : fs.toList.mapM (fun f => DataW.trod enc P w base spare held 1 f.type (((ns.map (Value.int .i64)).drop f.offset).take (P.cellsOf f.type))) = some (fs.toList.map fun f => (.lit (.int .i64 (ns.getD f.offset 0)), [])) := by
    refine mapM_all fun f hf => ?_
    obtain ⟨i, hi, rfl⟩ := List.getElem_of_mem hf
    rw [Array.length_toList] at hi
    rw [Array.getElem_toList]
    have hfi : fs[i]? = some fs[i] := Array.getElem?_eq_getElem hi
    obtain ⟨ho, hc⟩ := hone_of hone i _ hfi
    have ht : fs[i].type = T := by
      have := Array.all_eq_true.1 hk i hi
      simpa using this
    rw [ho, hc, ht, List.drop_eq_getElem_cons (by simp; omega)]
    have hw := wf63.2 (hn ns[i] (List.getElem_mem _))
    simp [DataW.trod, hT, hw, List.getD_eq_getElem?_getD, List.getElem?_eq_getElem (show i < ns.length by omega)]
  have := trod_struct_mk (enc := enc) (w := w) (base := base) (spare := spare) (held := held) hs (by rw [List.length_map]; omega) hm
  rw [this]
  congr 1
  refine Prod.ext ?_ ?_
  · simp only [List.map_map, Function.comp_def]
    congr 1
    apply List.ext_getElem?
    intro i
    rcases Nat.lt_or_ge i fs.size with hi | hi
    · have hfi : fs[i]? = some fs[i] := Array.getElem?_eq_getElem hi
      obtain ⟨ho, hc⟩ := hone_of hone i _ hfi
      simp [hfi, ho, List.getD_eq_getElem?_getD, List.getElem?_eq_getElem (show i < ns.length by omega)]
    · rw [List.getElem?_eq_none (by simp; omega), List.getElem?_eq_none (by simp; omega)]
  · simp
/-- A struct of ints that came in: opened, and shut in whatever memory. -/
theorem open_iagg {r : Reach} {b0 : Nat} {t T : TypeId} {fs : Array Field} {v : Value} {d : DataW H} {ps : List MemPlace} (hs : P.underlying t = some (.struct fs)) (hone : oneCellFields P fs = true) (hC : P.cellsOf t = fs.size)
    (hk : fs.all (fun f => f.type == T) = true) (hT : P.underlying T = some (.int .i64)) (hv : Value.okWide P w r b0 t v) (h : DataW.Trod enc P w base spare held t v d ps) :
    ∃ ns : List Int, v = .agg (ns.map (Value.int .i64)).toArray ∧ ns.length = fs.size ∧ ps = [] ∧ (∀ n ∈ ns, in63 n) ∧ ∀ (w' : World) (base' : Nat) (spare' : Nat → Bool) (held' : Bool), DataW.Trod enc P w' base' spare' held' t v d [] := by
  obtain ⟨cs, rfl, hsz⟩ := okWide_struct hs hv
  obtain ⟨fuel, hf⟩ := h
  obtain ⟨ns, e1, e2, e3, e4⟩ := trod_iagg hs hone hC hk hT hf
  have e1' : cs = (ns.map (Value.int .i64)).toArray := by
    apply Array.ext'
    simpa [Value.cells] using e1
  obtain ⟨rfl, rfl⟩ := Prod.mk.inj e3
  refine ⟨ns, by rw [e1'], e2, rfl, e4, fun w' base' spare' held' => ⟨2, ?_⟩⟩
  rw [e1']
  simpa [Value.cells] using trod_iagg_mk (enc := enc) (w := w') (base := base') (spare := spare') (held := held') hs hone hC hk hT e2 e4
end
end Go.Proofs.Ytahlhdhljjpeoaa
