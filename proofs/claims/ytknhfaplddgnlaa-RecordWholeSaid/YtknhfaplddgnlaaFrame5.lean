/- What came in, opened part by part: numbers, marks, lists, structs, one in the other. -/
import Derived.Test.YtknhfaplddgnlaaFrame
import Derived.Deep.Slices
namespace Go.Proofs.Ytknhfaplddgnlaa
open Go.ChangeShapes Go.WideShapes Go.ChangeAt Go.RowKit Go.Deep
set_option linter.unusedVariables false
set_option linter.unusedSimpArgs false

section
variable {H : Type} {enc : TypeId × Value → H} {W : World} {base : Nat}
/-- Whatever is read as a T, within the reach, is so. -/
def Opens (enc : TypeId × Value → H) (W : World) (base : Nat) (T : TypeId) (R : List Value → Prop) : Prop :=
  ∀ (fuel : Nat) (cs : List Value) (x : DataW H × List MemPlace), DataW.trod enc Try.prog W base (fun _ => true) true fuel T cs = some x → (∀ n ∈ x.1.weights Try.prog T, n ≤ reachBytes) → R cs
theorem Opens.mono {T : TypeId} {R R' : List Value → Prop} (h : Opens enc W base T R) (hr : ∀ cs, R cs → R' cs) : Opens enc W base T R' := fun fuel cs x h1 h2 => hr _ (h fuel cs x h1 h2)
theorem opens_int {T : TypeId} {k : IntKind} (hT : Try.prog.underlying T = some (.int k)) : Opens enc W base T (fun cs => ∃ n : Int, cs = [.int k n] ∧ k.min ≤ n ∧ n ≤ k.max) := by
  intro fuel cs x h _
  obtain ⟨n, h1, _, h3⟩ := DataW.trod_int hT h
  simp only [Lit.wf, Bool.and_eq_true, decide_eq_true_eq] at h3
  exact ⟨n, h1, h3⟩
theorem opens_i64 {T : TypeId} (hT : Try.prog.underlying T = some (.int .i64)) : Opens enc W base T (fun cs => ∃ n : Int, cs = [.int .i64 n] ∧ -9223372036854775808 ≤ n ∧ n ≤ 9223372036854775807) := opens_int hT
theorem opens_u8 {T : TypeId} (hT : Try.prog.underlying T = some (.int .u8)) : Opens enc W base T (fun cs => ∃ n : Nat, cs = [.int .u8 (n : Int)] ∧ n < 256) := by
  refine (opens_int hT).mono ?_
  rintro cs ⟨n, rfl, h1, h2⟩
  have e1 : IntKind.u8.min = 0 := rfl
  have e2 : IntKind.u8.max = 255 := rfl
  rw [e1] at h1
  rw [e2] at h2
  obtain ⟨m, rfl⟩ := Int.eq_ofNat_of_zero_le h1
  exact ⟨m, rfl, by omega⟩
theorem opens_bool {T : TypeId} (hT : Try.prog.underlying T = some .bool) : Opens enc W base T (fun cs => ∃ b : Bool, cs = [.bool b]) := by
  intro fuel cs x h _
  obtain ⟨b, h1, _⟩ := DataW.trod_bool hT h
  exact ⟨b, h1⟩
theorem weights_mem_all {P : Program} {e : TypeId} : ∀ {ds : List (DataW H)} {i : Nat} {d : DataW H}, ds[i]? = some d → ∀ n ∈ d.weights P e, n ∈ DataW.weightsAll P e ds
  | d0 :: ds, 0, d, hd, n, hn => by
    simp only [List.getElem?_cons_zero, Option.some.injEq] at hd
    subst hd
    simp only [DataW.weightsAll, List.mem_append]
    exact .inl hn
  | d0 :: ds, i + 1, d, hd, n, hn => by
    simp only [List.getElem?_cons_succ] at hd
    simp only [DataW.weightsAll, List.mem_append]
    exact .inr (weights_mem_all hd n hn)
  | [], _, _, hd, _, _ => by simp at hd
/-- A slice: its elements, each in its place. -/
def SlR (W : World) (size bytes : Nat) (R : List Value → Prop) (cs : List Value) : Prop :=
  ∃ (a : Option Addr) (len cap : Nat), cs = [.slice a len cap] ∧ len ≤ cap ∧ cap ≤ maxLen ∧ len * bytes ≤ reachBytes ∧
    ∀ i, i < len → ∃ (b off : Nat) (es : List Value), a = some ⟨b, off, none⟩ ∧ es.length = size ∧ R es ∧ ∀ (j : Nat) (u : Value), es[j]? = some u → W.cell? ⟨b, off + i * size + j, none⟩ = some u
theorem opens_slice {t e : TypeId} {size bytes : Nat} {R : List Value → Prop} (ht : Try.prog.underlying t = some (.slice e)) (hs : Try.prog.cellsOf e = size) (hb : Try.prog.bytesOf e = bytes) (hpos : 0 < size) (he : Opens enc W base e R) : Opens enc W base t (SlR W size bytes R) := by
  intro fuel cs x h hw
  rcases open_slice ht h with ⟨rfl, rfl⟩ | ⟨a, len, cap, m, n, D, Pl, rfl, hbb, hl, hm, hmm, rfl, hi⟩
  · exact ⟨none, 0, 0, rfl, Nat.le_refl _, Nat.zero_le _, by rw [Nat.zero_mul]; exact Nat.zero_le _, fun i hi => absurd hi (Nat.not_lt_zero _)⟩
  · simp only [if_true] at hmm
    rw [hs] at hi
    refine ⟨some a, len, cap, rfl, hl, hm, ?_, fun i hil => ?_⟩
    · have := hw ((len + (m - len)) * bytes) (by simp [DataW.weights, ht, hb])
      exact Nat.le_trans (Nat.mul_le_mul_right _ (by omega)) this
    · obtain ⟨es, h1, h2⟩ := hi i (by omega)
      have hR := he _ _ _ h2 (fun k hk => hw k (by
        simp only [DataW.weights, ht, List.mem_cons, List.mem_append]
        refine .inr (.inl (weights_mem_all (i := i) (d := D i) ?_ k hk))
        simp [hil]))
      obtain ⟨_, hlen, hat⟩ := World.cells?_some h1
      obtain ⟨es0, z1, _⟩ := hi 0 (by omega)
      obtain ⟨_, zlen, zat⟩ := World.cells?_some z1
      have h0 := zat 0 hpos
      have h0l : 0 < es0.length := Nat.lt_of_lt_of_le hpos (Nat.le_of_eq zlen.symm)
      obtain ⟨u0, hu0⟩ : ∃ u0, es0[0]? = some u0 := by
        rcases es0 with _ | ⟨u, es⟩
        · exact absurd h0l (Nat.lt_irrefl 0)
        · exact ⟨u, rfl⟩
      rw [hu0] at h0
      obtain ⟨b, off, spot⟩ := a
      have hspot : spot = none := by simpa [Addr.add] using World.cell?_spot h0
      subst hspot
      refine ⟨b, off, es, rfl, hlen, hR, fun j u hu => ?_⟩
      have hj : j < es.length := (List.getElem?_eq_some_iff.1 hu).1
      have hjj := hat j (by rw [← hlen]; exact hj)
      rw [add_plain, add_plain] at hjj
      rw [hjj]
      exact hu
/-- The elements of such a slice, as a list. -/
theorem slr_list {X : Type} {size bytes : Nat} {R : List Value → Prop} {cs : List Value} (f : X → List Value) (good : X → Prop) (hR : ∀ es, R es → ∃ x, es = f x ∧ good x) (h : SlR W size bytes R cs) :
    ∃ (a : Option Addr) (cap : Nat) (l : List X), cs = [.slice a l.length cap] ∧ l.length ≤ cap ∧ cap ≤ maxLen ∧ l.length * bytes ≤ reachBytes ∧
      ∀ (i : Nat) (x : X), l[i]? = some x → good x ∧ (f x).length = size ∧ ∃ b off, a = some ⟨b, off, none⟩ ∧ ∀ (j : Nat) (u : Value), (f x)[j]? = some u → W.cell? ⟨b, off + i * size + j, none⟩ = some u := by
  obtain ⟨a, len, cap, rfl, h1, h2, h3, h4⟩ := h
  have build : ∀ n, n ≤ len → ∃ l : List X, l.length = n ∧ ∀ (i : Nat) (x : X), l[i]? = some x → good x ∧ (f x).length = size ∧ ∃ b off, a = some ⟨b, off, none⟩ ∧ ∀ (j : Nat) (u : Value), (f x)[j]? = some u → W.cell? ⟨b, off + i * size + j, none⟩ = some u := by
    intro n
    induction n with
    | zero => exact fun _ => ⟨[], rfl, fun i x h => by simp at h⟩
    | succ n ih =>
      intro hn
      obtain ⟨l, g1, g2⟩ := ih (by omega)
      obtain ⟨b, off, es, ea, el, er, ec⟩ := h4 n (by omega)
      obtain ⟨x, rfl, hx⟩ := hR es er
      refine ⟨l ++ [x], by simp [g1], fun i y hy => ?_⟩
      rcases Nat.lt_or_ge i l.length with hi | hi
      · rw [List.getElem?_append_left hi] at hy
        exact g2 i y hy
      · have : i < (l ++ [x]).length := (List.getElem?_eq_some_iff.1 hy).1
        have e : i = l.length := by simp at this; omega
        subst e
        simp at hy
        subst hy
        rw [g1]
        exact ⟨hx, el, b, off, ea, ec⟩
  obtain ⟨l, g1, g2⟩ := build len (Nat.le_refl _)
  subst g1
  exact ⟨a, cap, l, rfl, h1, h2, h3, g2⟩
/-- Elements of one cell: they are read one behind the other. -/
theorem rd_one {X : Type} {a : Option Addr} {l : List X} {g : X → Value} {good : X → Prop} (h : ∀ (i : Nat) (x : X), l[i]? = some x → good x ∧ [g x].length = 1 ∧ ∃ b off, a = some ⟨b, off, none⟩ ∧ ∀ (j : Nat) (u : Value), [g x][j]? = some u → W.cell? ⟨b, off + i * 1 + j, none⟩ = some u) : RdV W a (l.map g) := by
  intro hn
  have hl : 0 < l.length := by
    rcases l with _ | ⟨x, l⟩
    · simp at hn
    · simp
  obtain ⟨_, _, b, off, rfl, _⟩ := h 0 _ (List.getElem?_eq_getElem hl)
  refine ⟨b, off, rfl, fun j u hu => ?_⟩
  rw [List.getElem?_map] at hu
  obtain ⟨x, hx, rfl⟩ := Option.map_eq_some_iff.1 hu
  obtain ⟨_, _, b', off', e, hc⟩ := h j x hx
  cases e
  have := hc 0 (g x) rfl
  simpa using this
/-- A list of marks. -/
theorem opens_bools {T e : TypeId} (hT : Try.prog.underlying T = some (.slice e)) (he : Try.prog.underlying e = some .bool) (hs : Try.prog.cellsOf e = 1) (hb : Try.prog.bytesOf e = 1) :
    Opens enc W base T (fun cs => ∃ (a : Option Addr) (cap : Nat) (l : List Bool), cs = [.slice a l.length cap] ∧ l.length ≤ cap ∧ cap ≤ maxLen ∧ l.length ≤ 140737488351232 ∧ RdV W a (l.map .bool)) := by
  refine (opens_slice hT hs hb (by decide) (opens_bool he)).mono ?_
  intro cs h
  obtain ⟨a, cap, l, rfl, h1, h2, h3, h4⟩ := slr_list (fun b => [Value.bool b]) (fun _ => True) (fun es ⟨b, hb⟩ => ⟨b, hb, trivial⟩) h
  refine ⟨a, cap, l, rfl, h1, h2, ?_, rd_one h4⟩
  rw [Nat.mul_one] at h3
  exact h3
/-- A struct: its fields, each in its place. -/
theorem opens_struct {t : TypeId} {fs : Array Field} {size : Nat} (ht : Try.prog.underlying t = some (.struct fs)) (hs : Try.prog.cellsOf t = size) (R : Nat → List Value → Prop)
    (hf : ∀ i f, fs[i]? = some f → Opens enc W base f.type (R i)) :
    Opens enc W base t (fun cs => cs.length = size ∧ ∀ i f, fs[i]? = some f → R i ((cs.drop f.offset).take (Try.prog.cellsOf f.type))) := by
  subst hs
  intro fuel cs x h hw
  obtain ⟨xs, n, _, rfl, hl, hlen, hg⟩ := DataW.trod_struct ht h
  refine ⟨hl, fun i f hif => ?_⟩
  have hi : i < xs.length := by rw [hlen]; exact (Array.getElem?_eq_some_iff.1 hif).1
  have h1 := hg i f hif
  rw [List.getElem?_eq_getElem hi] at h1
  refine hf i f hif _ _ _ h1 (fun k hk => hw k ?_)
  simp only [DataW.weights, ht]
  refine DataW.weights_mem_each (j := i) (t := f.type) (d := xs[i].1) ?_ ?_ k hk
  · simp [hif]
  · simp [List.getElem?_eq_getElem hi]
/-- A whole argument. -/
theorem opens_arg {T : TypeId} {R : List Value → Prop} (h : Opens enc W base T R) {v : Value} {d : DataW H} {ps : List MemPlace} {ts : List TypeId} {ds : List (DataW H)} {j : Nat}
    (hsz : (DataW.weightsEach Try.prog ts ds).all (· ≤ reachBytes) = true) (ht : ts[j]? = some T) (hd : ds[j]? = some d) (hv : DataW.Trod enc Try.prog W base (fun _ => true) true T v d ps) : R v.cells.toList := by
  obtain ⟨fuel, hf⟩ := hv
  refine h _ _ _ hf (fun n hn => ?_)
  have := List.all_eq_true.1 hsz _ (DataW.weights_mem_each ht hd n hn)
  simpa using this
end
end Go.Proofs.Ytknhfaplddgnlaa
