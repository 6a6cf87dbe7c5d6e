/- Texts joined: Frame5, Low, Apart, Mark, Apart2, Zeros, Dat. -/
import Derived.Deep.Slices
import Derived.Deep.RegionHeld3
import Derived.Deep.QuietTactic
import Derived.BigQuiet
import Derived.Lib.AppendZerosOnto
import Derived.Test.YtahlhdhljjpeoaaGBitsOnce1
/- What came in, opened part by part: numbers, marks, lists, structs, one in the other. -/
namespace Go.Proofs.Ytahlhdhljjpeoaa
open Go.ChangeShapes Go.WideShapes Go.ChangeAt Go.RowKit Go.Deep
set_option linter.unusedVariables false
set_option linter.unusedSimpArgs false

section
variable {H : Type} {enc : TypeId × Value → H} {W : World} {base : Nat}
/-- Whatever is read as a T, within the reach, is so. -/
def Opens (enc : TypeId × Value → H) (W : World) (base : Nat) (T : TypeId) (R : List Value → Prop) : Prop :=
  ∀ (fuel : Nat) (cs : List Value) (x : DataW H × List MemPlace), DataW.trod enc Try.prog W base (fun _ => true) true fuel T cs = some x → (∀ n ∈ x.1.weights Try.prog T, n ≤ reachBytes) → R cs
theorem Opens.mono {T : TypeId} {R R' : List Value → Prop} (h : Opens enc W base T R) (hr : ∀ cs, R cs → R' cs) : Opens enc W base T R' := fun fuel cs x h1 h2 => hr _ (h fuel cs x h1 h2)
theorem opens_int {T : TypeId} {k : IntKind} (hT : Try.prog.underlying T = some (.int k)) : Opens enc W base T (fun cs => ∃ n : Int, cs = [.int k n] ∧ k.min ≤ n ∧ n ≤ k.max) := by
  intro fuel cs x h _
  obtain ⟨n, h1, _, h3⟩ := DataW.trod_int hT h
  simp only [Lit.wf, Bool.and_eq_true, decide_eq_true_eq] at h3
  exact ⟨n, h1, h3⟩
theorem opens_i64 {T : TypeId} (hT : Try.prog.underlying T = some (.int .i64)) : Opens enc W base T (fun cs => ∃ n : Int, cs = [.int .i64 n] ∧ -9223372036854775808 ≤ n ∧ n ≤ 9223372036854775807) := opens_int hT
theorem opens_u8 {T : TypeId} (hT : Try.prog.underlying T = some (.int .u8)) : Opens enc W base T (fun cs => ∃ n : Nat, cs = [.int .u8 (n : Int)] ∧ n < 256) := by
  refine (opens_int hT).mono ?_
  rintro cs ⟨n, rfl, h1, h2⟩
  have e1 : IntKind.u8.min = 0 := rfl
  have e2 : IntKind.u8.max = 255 := rfl
  rw [e1] at h1
  rw [e2] at h2
  obtain ⟨m, rfl⟩ := Int.eq_ofNat_of_zero_le h1
  exact ⟨m, rfl, by omega⟩
theorem opens_bool {T : TypeId} (hT : Try.prog.underlying T = some .bool) : Opens enc W base T (fun cs => ∃ b : Bool, cs = [.bool b]) := by
  intro fuel cs x h _
  obtain ⟨b, h1, _⟩ := DataW.trod_bool hT h
  exact ⟨b, h1⟩
theorem weights_mem_all {P : Program} {e : TypeId} : ∀ {ds : List (DataW H)} {i : Nat} {d : DataW H}, ds[i]? = some d → ∀ n ∈ d.weights P e, n ∈ DataW.weightsAll P e ds
  | d0 :: ds, 0, d, hd, n, hn => by
    simp only [List.getElem?_cons_zero, Option.some.injEq] at hd
    subst hd
    simp only [DataW.weightsAll, List.mem_append]
    exact .inl hn
  | d0 :: ds, i + 1, d, hd, n, hn => by
    simp only [List.getElem?_cons_succ] at hd
    simp only [DataW.weightsAll, List.mem_append]
    exact .inr (weights_mem_all hd n hn)
  | [], _, _, hd, _, _ => by simp at hd
/-- A slice: its elements, each in its place. -/
def SlR (W : World) (size bytes : Nat) (R : List Value → Prop) (cs : List Value) : Prop :=
  ∃ (a : Option Addr) (len cap : Nat), cs = [.slice a len cap] ∧ len ≤ cap ∧ cap ≤ maxLen ∧ len * bytes ≤ reachBytes ∧
    ∀ i, i < len → ∃ (b off : Nat) (es : List Value), a = some ⟨b, off, none⟩ ∧ es.length = size ∧ R es ∧ ∀ (j : Nat) (u : Value), es[j]? = some u → W.cell? ⟨b, off + i * size + j, none⟩ = some u
theorem opens_slice {t e : TypeId} {size bytes : Nat} {R : List Value → Prop} (ht : Try.prog.underlying t = some (.slice e)) (hs : Try.prog.cellsOf e = size) (hb : Try.prog.bytesOf e = bytes) (hpos : 0 < size) (he : Opens enc W base e R) : Opens enc W base t (SlR W size bytes R) := by
  intro fuel cs x h hw
  rcases open_slice ht h with ⟨rfl, rfl⟩ | ⟨a, len, cap, m, n, D, Pl, rfl, hbb, hl, hm, hmm, rfl, hi⟩
  · exact ⟨none, 0, 0, rfl, Nat.le_refl _, Nat.zero_le _, by rw [Nat.zero_mul]; exact Nat.zero_le _, fun i hi => absurd hi (Nat.not_lt_zero _)⟩
  · simp only [if_true] at hmm
    rw [hs] at hi
    refine ⟨some a, len, cap, rfl, hl, hm, ?_, fun i hil => ?_⟩
    · have := hw ((len + (m - len)) * bytes) (by simp [DataW.weights, ht, hb])
      exact Nat.le_trans (Nat.mul_le_mul_right _ (by omega)) this
    · obtain ⟨es, h1, h2⟩ := hi i (by omega)
      have hR := he _ _ _ h2 (fun k hk => hw k (by
        simp only [DataW.weights, ht, List.mem_cons, List.mem_append]
        refine .inr (.inl (weights_mem_all (i := i) (d := D i) ?_ k hk))
        simp [hil]))
      obtain ⟨_, hlen, hat⟩ := World.cells?_some h1
      obtain ⟨es0, z1, _⟩ := hi 0 (by omega)
      obtain ⟨_, zlen, zat⟩ := World.cells?_some z1
      have h0 := zat 0 hpos
      have h0l : 0 < es0.length := Nat.lt_of_lt_of_le hpos (Nat.le_of_eq zlen.symm)
      obtain ⟨u0, hu0⟩ : ∃ u0, es0[0]? = some u0 := by
        rcases es0 with _ | ⟨u, es⟩
        · exact absurd h0l (Nat.lt_irrefl 0)
        · exact ⟨u, rfl⟩
      rw [hu0] at h0
      obtain ⟨b, off, spot⟩ := a
      have hspot : spot = none := by simpa [Addr.add] using World.cell?_spot h0
      subst hspot
      refine ⟨b, off, es, rfl, hlen, hR, fun j u hu => ?_⟩
      have hj : j < es.length := (List.getElem?_eq_some_iff.1 hu).1
      have hjj := hat j (by rw [← hlen]; exact hj)
      rw [add_plain, add_plain] at hjj
      rw [hjj]
      exact hu
/-- The elements of such a slice, as a list. -/
theorem slr_list {X : Type} {size bytes : Nat} {R : List Value → Prop} {cs : List Value} (f : X → List Value) (good : X → Prop) (hR : ∀ es, R es → ∃ x, es = f x ∧ good x) (h : SlR W size bytes R cs) :
    ∃ (a : Option Addr) (cap : Nat) (l : List X), cs = [.slice a l.length cap] ∧ l.length ≤ cap ∧ cap ≤ maxLen ∧ l.length * bytes ≤ reachBytes ∧
      ∀ (i : Nat) (x : X), l[i]? = some x → good x ∧ (f x).length = size ∧ ∃ b off, a = some ⟨b, off, none⟩ ∧ ∀ (j : Nat) (u : Value), (f x)[j]? = some u → W.cell? ⟨b, off + i * size + j, none⟩ = some u := by
  obtain ⟨a, len, cap, rfl, h1, h2, h3, h4⟩ := h
  have build : ∀ n, n ≤ len → ∃ l : List X, l.length = n ∧ ∀ (i : Nat) (x : X), l[i]? = some x → good x ∧ (f x).length = size ∧ ∃ b off, a = some ⟨b, off, none⟩ ∧ ∀ (j : Nat) (u : Value), (f x)[j]? = some u → W.cell? ⟨b, off + i * size + j, none⟩ = some u := by
    intro n
    induction n with
    | zero => exact fun _ => ⟨[], rfl, fun i x h => by simp at h⟩
    | succ n ih =>
      intro hn
      obtain ⟨l, g1, g2⟩ := ih (by omega)
      obtain ⟨b, off, es, ea, el, er, ec⟩ := h4 n (by omega)
      obtain ⟨x, rfl, hx⟩ := hR es er
      refine ⟨l ++ [x], by simp [g1], fun i y hy => ?_⟩
      rcases Nat.lt_or_ge i l.length with hi | hi
      · rw [List.getElem?_append_left hi] at hy
        exact g2 i y hy
      · have : i < (l ++ [x]).length := (List.getElem?_eq_some_iff.1 hy).1
        have e : i = l.length := by simp at this; omega
        subst e
        simp at hy
        subst hy
        rw [g1]
        exact ⟨hx, el, b, off, ea, ec⟩
  obtain ⟨l, g1, g2⟩ := build len (Nat.le_refl _)
  subst g1
  exact ⟨a, cap, l, rfl, h1, h2, h3, g2⟩
/-- Elements of one cell: they are read one behind the other. -/
theorem rd_one {X : Type} {a : Option Addr} {l : List X} {g : X → Value} {good : X → Prop} (h : ∀ (i : Nat) (x : X), l[i]? = some x → good x ∧ [g x].length = 1 ∧ ∃ b off, a = some ⟨b, off, none⟩ ∧ ∀ (j : Nat) (u : Value), [g x][j]? = some u → W.cell? ⟨b, off + i * 1 + j, none⟩ = some u) : RdV W a (l.map g) := by
  intro hn
  have hl : 0 < l.length := by
    rcases l with _ | ⟨x, l⟩
    · simp at hn
    · simp
  obtain ⟨_, _, b, off, rfl, _⟩ := h 0 _ (List.getElem?_eq_getElem hl)
  refine ⟨b, off, rfl, fun j u hu => ?_⟩
  rw [List.getElem?_map] at hu
  obtain ⟨x, hx, rfl⟩ := Option.map_eq_some_iff.1 hu
  obtain ⟨_, _, b', off', e, hc⟩ := h j x hx
  cases e
  have := hc 0 (g x) rfl
  simpa using this
/-- A list of marks. -/
theorem opens_bools {T e : TypeId} (hT : Try.prog.underlying T = some (.slice e)) (he : Try.prog.underlying e = some .bool) (hs : Try.prog.cellsOf e = 1) (hb : Try.prog.bytesOf e = 1) :
    Opens enc W base T (fun cs => ∃ (a : Option Addr) (cap : Nat) (l : List Bool), cs = [.slice a l.length cap] ∧ l.length ≤ cap ∧ cap ≤ maxLen ∧ l.length ≤ 140737488351232 ∧ RdV W a (l.map .bool)) := by
  refine (opens_slice hT hs hb (by decide) (opens_bool he)).mono ?_
  intro cs h
  obtain ⟨a, cap, l, rfl, h1, h2, h3, h4⟩ := slr_list (fun b => [Value.bool b]) (fun _ => True) (fun es ⟨b, hb⟩ => ⟨b, hb, trivial⟩) h
  refine ⟨a, cap, l, rfl, h1, h2, ?_, rd_one h4⟩
  rw [Nat.mul_one] at h3
  exact h3
/-- A struct: its fields, each in its place. -/
theorem opens_struct {t : TypeId} {fs : Array Field} {size : Nat} (ht : Try.prog.underlying t = some (.struct fs)) (hs : Try.prog.cellsOf t = size) (R : Nat → List Value → Prop)
    (hf : ∀ i f, fs[i]? = some f → Opens enc W base f.type (R i)) :
    Opens enc W base t (fun cs => cs.length = size ∧ ∀ i f, fs[i]? = some f → R i ((cs.drop f.offset).take (Try.prog.cellsOf f.type))) := by
  subst hs
  intro fuel cs x h hw
  obtain ⟨xs, n, _, rfl, hl, hlen, hg⟩ := DataW.trod_struct ht h
  refine ⟨hl, fun i f hif => ?_⟩
  have hi : i < xs.length := by rw [hlen]; exact (Array.getElem?_eq_some_iff.1 hif).1
  have h1 := hg i f hif
  rw [List.getElem?_eq_getElem hi] at h1
  refine hf i f hif _ _ _ h1 (fun k hk => hw k ?_)
  simp only [DataW.weights, ht]
  refine DataW.weights_mem_each (j := i) (t := f.type) (d := xs[i].1) ?_ ?_ k hk
  · simp [hif]
  · simp [List.getElem?_eq_getElem hi]
/-- A whole argument. -/
theorem opens_arg {T : TypeId} {R : List Value → Prop} (h : Opens enc W base T R) {v : Value} {d : DataW H} {ps : List MemPlace} {ts : List TypeId} {ds : List (DataW H)} {j : Nat}
    (hsz : (DataW.weightsEach Try.prog ts ds).all (· ≤ reachBytes) = true) (ht : ts[j]? = some T) (hd : ds[j]? = some d) (hv : DataW.Trod enc Try.prog W base (fun _ => true) true T v d ps) : R v.cells.toList := by
  obtain ⟨fuel, hf⟩ := hv
  refine h _ _ _ hf (fun n hn => ?_)
  have := List.all_eq_true.1 hsz _ (DataW.weights_mem_each ht hd n hn)
  simpa using this
end
end Go.Proofs.Ytahlhdhljjpeoaa

/- The walks of ledgerstonelow's functions on bytes and numbers. -/
namespace Go.Proofs.Ytahlhdhljjpeoaa
open Go.RowKit
set_option maxHeartbeats 800000
set_option linter.unusedVariables false
set_option linter.unusedSimpArgs false

theorem SameBytes_any (w : World) (a b : Option Addr) (c d n m : Nat) (l r : List UInt8) (hn : n = l.length) (hm : m = r.length) (hl : RdB w a l) (hr : RdB w b r) :
    Calls Try.prog 75 #[.slice a n c, .slice b m d] w fun e w' => e = .returned (.bool (l == r)) ∧ w = w' := by
  subst hn hm
  have h1 := run_strB c hl
  have h2 := run_strB d hr
  have h3 := strB_toList l
  have h4 := strB_toList r
  go_enter Try.func75, Try.ntmps75
  go_wp2
  go_ret
  exact ⟨rfl, rfl⟩

theorem SameBytes_self (w : World) (a b : Option Addr) (c d n m : Nat) (l : List UInt8) (hn : n = l.length) (hm : m = l.length) (hl : RdB w a l) (hr : RdB w b l) :
    Calls Try.prog 75 #[.slice a n c, .slice b m d] w fun e w' => e = .returned (.bool true) ∧ w = w' := by
  refine (SameBytes_any w a b c d n m l l hn hm hl hr).mono ?_
  rintro e w' ⟨rfl, rfl⟩
  exact ⟨by simp, rfl⟩
theorem CopyBytes_any (w : World) (a : Option Addr) (c N : Nat) (l : List UInt8) (hN : N = l.length) (hl : l.length ≤ 200000000000000) (hr : RdB w a l) :
    Calls Try.prog 28 #[.slice a N c] w fun e w' =>
      ∃ A c', e = .returned (.slice A N c') ∧ OwnB w.heap.size w' A c' l ∧ Below w.heap.size w w' := by
  subst hN
  go_enter Try.func28, Try.ntmps28
  go_wp2_with (at_builtin; refine app_bytes rfl (.tmp 4) (.tmp 5) rfl w.heap.size none 0 0 [] rfl rfl (OwnB.nil _ _) a l.length c l rfl rfl hr l.length (by simp) (by simpa using hl) w (Below.refl _ _) (Nat.le_refl _) ?_; intro A1 c1 w2 ho2 hb2 _ _)
  go_ret
  exact ⟨A1, c1, rfl, by simpa using ho2, hb2⟩

end Go.Proofs.Ytahlhdhljjpeoaa

/- ledgerstonelow.ApartBytes over lists in blocks of their own. -/
namespace Go.Proofs.Ytahlhdhljjpeoaa
open Go.RowKit
set_option maxHeartbeats 3200000
set_option linter.unusedVariables false
set_option linter.unusedSimpArgs false

theorem below_drew_alloc (w : World) (o : Obj) : Below w.heap.size w (w.drew.alloc o) :=
  have h : Below w.heap.size w w.drew := ⟨rfl, rfl, rfl, Nat.le_refl _, fun _ _ => rfl⟩
  h.alloc (Nat.le_refl _) o
/-- append, and where the row lies then: in its place, or in a block of its own, and nothing old has turned. -/
theorem run_app2 {P : Program} {W : World} (t ty e : TypeId) (i : TypeInfo) (z : Value) (ht : P.underlying t = some (.slice e)) (hi : P.info? e = some i) (hz : i.zero = some z) (hzs : z.cells.size = i.size) (hsz : 0 < i.size)
    (base : Nat) (v : Value) (n : Nat) (xs : List Value) (HO : W.ownsRow base e i.size v n xs)
    (A : Option Addr) (m c : Nat) (ys : List Value) (hl : ys.length = m * i.size) (HR : RdV W A ys) (h1 : ∀ u ∈ ys, u.oneCell' = true)
    (hb0 : 0 < i.bytes) (hbytes : ((n + m) + (n + m) / 4 + 192) * i.bytes ≤ 281474976710656) (hbase : base ≤ W.heap.size) :
    ∃ v1 w1, (Builtin.append_ #[t, t] ty #[v, .slice A m c]).run P W = .ok v1 w1 ∧ w1.ownsRow base e i.size v1 (n + m) (xs ++ ys) ∧ ((v1.ownBlock = v.ownBlock ∧ W.grownBy w1 v.ownBlock) ∨ (v1.ownBlock = some W.heap.size ∧ Below W.heap.size W w1)) := by
  have h63 : n + m ≤ 281474976710656 := by
    have := Nat.le_mul_of_pos_right ((n + m) + (n + m) / 4 + 192) hb0
    omega
  have hmax : n + m ≤ maxLen := by simp only [maxLen]; omega
  by_cases hm : m = 0
  · subst hm
    obtain rfl : ys = [] := List.eq_nil_of_length_eq_zero (by simpa using hl)
    refine ⟨v, W, ?_, by simpa using HO, .inl ⟨rfl, World.grownBy.refl W _⟩⟩
    have hld : ∀ ad, (loadCells ad 0).run P W = .ok #[] W := fun ad => by simpa using run_loadCells_list (P := P) W ad [] (fun j v hj => by simp at hj)
    rcases HO.2 with ⟨rfl, rfl⟩ | ⟨g, cap, cur, rfl, _, _, hnc, _⟩
    · cases A <;> simp [Builtin.append_, run_underlying ht, sizeOf, typeInfo, hi, Builtin.lenOf, Builtin.firstCells, hld]
    · cases A <;> simp [Builtin.append_, run_underlying ht, sizeOf, typeInfo, hi, Builtin.lenOf, Builtin.firstCells, hnc, storeCells, hld]
  · have hpos : 0 < m * i.size := Nat.mul_pos (by omega) hsz
    obtain ⟨b, off, rfl, hc⟩ := HR (fun e => by rw [e] at hl; simp at hl; omega)
    have hnews : ∀ j u, ys[j]? = some u → W.cell? ((⟨b, off, none⟩ : Addr).add j) = some u := fun j u hu => by rw [add_plain]; exact hc j u hu
    rcases HO.2 with ⟨rfl, rfl⟩ | ⟨g, cap, cur, rfl, hbg, hg, hnc, hcm, hcs, htake⟩
    · obtain rfl : xs = [] := List.eq_nil_of_length_eq_zero (by simpa using HO.1)
      have hr := run_append_nil (P := P) W t ty e i z ht hi hz ⟨b, off, none⟩ m c ys hl hnews (by omega) (by omega) (Nat.le_trans (Nat.mul_le_mul_right _ (by omega)) hbytes)
      refine ⟨_, _, hr, ?_, .inr ⟨rfl, below_drew_alloc W _⟩⟩
      have := own_grown (W := W) (base := base) (e := e) (z := z) (n := m) hl hzs (grownCap_ge W m 0 e) (grownCap_le_maxLen W m 0 e (by omega)) hbase
      simpa using this
    · by_cases hroom : n + m ≤ cap
      · have hfit : n * i.size + ys.length ≤ cur.size := by rw [hl, hcs, ← Nat.add_mul]; exact Nat.mul_le_mul_right _ hroom
        have hr := run_append_room (P := P) W t ty e i ht hi g n cap cur hg ⟨b, off, none⟩ m c ys hl hnews h1 hroom hfit
        have ho := own_room hg hbg hcm hcs htake hl hroom
        exact ⟨_, _, hr, ho.1, .inl ⟨rfl, ho.2⟩⟩
      · have holds : ∀ j u, xs[j]? = some u → W.cell? ((⟨g, 0, none⟩ : Addr).add j) = some u := HO.cells (g := g) rfl
        have hr := run_append_grow (P := P) W t ty e i z ht hi hz ⟨g, 0, none⟩ n cap xs HO.1 holds ⟨b, off, none⟩ m c ys hl hnews (by omega) (by omega) (growslice_fits_wide (by omega) hbytes)
        refine ⟨_, _, hr, ?_, .inr ⟨rfl, below_drew_alloc W _⟩⟩
        have := own_grown (W := W) (base := base) (e := e) (z := z) (n := n + m) (xs := xs ++ ys) (by rw [List.length_append, HO.1, hl, Nat.add_mul]) hzs (grownCap_ge W (n + m) cap e) (grownCap_le_maxLen W (n + m) cap e hmax) hbase
        simpa using this
section
variable {ops : Array Oper} {rest : List Oper} {o : Oper} {a : Act} {Q : Exit → Act → World → Prop}
/-- append on bytes: in its place, or in a block of its own. -/
theorem app_bytes2 {W : World} (hgd : o.guard = none) (s x : Operand)
    (ho : o.op = .call { callee := .builtin .append, args := #[s, x], argTypes := #[61, 61] })
    (base : Nat) (A0 : Option Addr) (c0 n0 : Nat) (l : List UInt8) (hn0 : n0 = l.length) (hs : a.eval s = .slice A0 n0 c0) (HO : OwnB base W A0 c0 l)
    (A : Option Addr) (m c : Nat) (r : List UInt8) (hx : a.eval x = .slice A m c) (hl : m = r.length) (HR : RdB W A r)
    (n1 : Nat) (hn1 : n1 = l.length + r.length) (hbytes : l.length + r.length ≤ 200000000000000) (hbase : base ≤ W.heap.size)
    (h : ∀ A1 c1 w1, OwnB base w1 A1 c1 (l ++ r) → ((A1.map (·.block) = A0.map (·.block) ∧ W.grownBy w1 (A0.map (·.block))) ∨ (A1.map (·.block) = some W.heap.size ∧ Below W.heap.size W w1)) →
      wpList Try.prog ops Q rest (a.put o.dst (.slice A1 n1 c1)) w1) :
    wpList Try.prog ops Q (o :: rest) a W := by
  subst hl hn0 hn1
  obtain ⟨i0, hi, hz0, hz1, hz2⟩ := info_parts info_u8
  have hi1 : i0.size = 1 := hz1
  have HO' : W.ownsRow base 5 i0.size (.slice A0 l.length c0) l.length (B8s l) := by rw [hz1]; exact HO
  obtain ⟨v1, w1, hr, h1, h2⟩ := run_app2 (W := W) 61 o.type 5 i0 (.int .u8 0) Try.underlying61 hi hz0 (by rw [hz1]; rfl) (by rw [hz1]; decide) base _ l.length (B8s l) HO' A r.length c (B8s r) (by simp [B8s, hz1]) HR (B8s_one r) (by rw [hz2]; decide) (by rw [hz2]; omega) hbase
  obtain ⟨A1, c1, rfl, _⟩ := own_slice h1
  refine wpList_plain hgd fun K hK => ?_
  unfold Oper.wp execOp
  simp only [ho, resolve, invoke, builtin, Sem.run_bind, Sem.run_pure, Result.andThen_ok, List.map_toArray, List.map_cons, List.map_nil, hs, hx, hr]
  refine hK _ _ (h A1 c1 w1 ?_ ?_)
  · unfold OwnB
    rw [List.length_append, B8s_append]
    rw [hz1] at h1
    exact h1
  · cases A1 <;> cases A0 <;> simp [Value.ownBlock] at h2 ⊢ <;> exact h2
end
end Go.Proofs.Ytahlhdhljjpeoaa

/- ledgerstonelow.markByte. -/
namespace Go.Proofs.Ytahlhdhljjpeoaa
open Go.RowKit
set_option maxHeartbeats 3200000
set_option linter.unusedVariables false
set_option linter.unusedSimpArgs false

/-- The mark of place i in list k. -/
def mkB (k i : Nat) : UInt8 := UInt8.ofNat ((1000003 * (k + 7) + i) * 11400714819323198485 % 18446744073709551616 / 72057594037927936)
theorem mkB_toNat (k i : Nat) : (mkB k i).toNat = (1000003 * (k + 7) + i) * 11400714819323198485 % 18446744073709551616 / 72057594037927936 := by
  have : (1000003 * (k + 7) + i) * 11400714819323198485 % 18446744073709551616 < 18446744073709551616 := Nat.mod_lt _ (by decide)
  rw [mkB, UInt8.toNat_ofNat']
  omega
end Go.Proofs.Ytahlhdhljjpeoaa

/- ledgerstonelow.ApartBytes. -/
namespace Go.Proofs.Ytahlhdhljjpeoaa
open Go.RowKit
set_option maxHeartbeats 3200000
set_option linter.unusedVariables false
set_option linter.unusedSimpArgs false

theorem heap_in {w : World} {g : Nat} {o : Obj} (h : w.heap[g]? = some o) : g < w.heap.size := (Array.getElem?_eq_some_iff.1 h).1
/-- What lies in no block of S is as it was. -/
structure Kpt (S : Nat → Prop) (w w' : World) : Prop where
  os : w'.os = w.os
  tape : w'.tape = w.tape
  output : w'.output = w.output
  size : w.heap.size ≤ w'.heap.size
  block : ∀ j, j < w.heap.size → ¬ S j → w'.heap[j]? = w.heap[j]?
theorem Kpt.refl (S : Nat → Prop) (w : World) : Kpt S w w := ⟨rfl, rfl, rfl, Nat.le_refl _, fun _ _ _ => rfl⟩
theorem Kpt.trans {S : Nat → Prop} {a b c : World} (h : Kpt S a b) (k : Kpt S b c) : Kpt S a c :=
  ⟨k.os.trans h.os, k.tape.trans h.tape, k.output.trans h.output, Nat.le_trans h.size k.size, fun j hj hs => (k.block j (Nat.lt_of_lt_of_le hj h.size) hs).trans (h.block j hj hs)⟩
theorem Kpt.of_grown {S : Nat → Prop} {w w' : World} {row : Option Nat} (h : w.grownBy w' row) (hr : ∀ j, row = some j → S j) : Kpt S w w' := by
  obtain ⟨h1, h2, h3, h4, h5⟩ := h
  exact ⟨h1, h2, h3, h4, fun j hj hs => h5 j hj (fun e => hs (hr j e.symm))⟩
theorem Kpt.of_below {S : Nat → Prop} {w w' : World} (h : Below w.heap.size w w') : Kpt S w w' := ⟨h.os, h.tape, h.output, h.size, fun j hj _ => h.block j hj⟩
theorem Kpt.mono {S T : Nat → Prop} {w w' : World} (h : Kpt S w w') (hs : ∀ j, S j → T j) : Kpt T w w' := ⟨h.os, h.tape, h.output, h.size, fun j hj hn => h.block j hj (fun x => hn (hs j x))⟩
theorem Kpt.cell {S : Nat → Prop} {w w' : World} (h : Kpt S w w') {b off : Nat} {v : Value} (hc : w.cell? ⟨b, off, none⟩ = some v) (hs : ¬ S b) : w'.cell? ⟨b, off, none⟩ = some v := by
  have hlt : b < w.heap.size := World.block_lt_of_cell? w ⟨b, off, none⟩ hc
  rw [← hc]
  simp only [World.cell?, h.block b hlt hs]
theorem OwnB.kpt {S : Nat → Prop} {base g c : Nat} {w w' : World} {l : List UInt8} (h : OwnB base w (some ⟨g, 0, none⟩) c l) (k : Kpt S w w') (hs : ¬ S g) : OwnB base w' (some ⟨g, 0, none⟩) c l := by
  refine ⟨h.1, ?_⟩
  rcases h.2 with ⟨hv, _⟩ | ⟨g', cap, cur, hv, hb, hg, r⟩
  · simp at hv
  · simp only [Value.slice.injEq, Option.some.injEq, Addr.mk.injEq, and_true, true_and] at hv
    obtain ⟨rfl, rfl⟩ := hv
    exact .inr ⟨g, c, cur, rfl, hb, (k.block g (heap_in hg) hs).trans hg, r⟩
theorem OwnB.lt {base g c : Nat} {w : World} {l : List UInt8} (h : OwnB base w (some ⟨g, 0, none⟩) c l) : base ≤ g ∧ g < w.heap.size := by
  rcases h.2 with ⟨hv, _⟩ | ⟨g', cap, cur, hv, hb, hg, r⟩
  · simp at hv
  · simp only [Value.slice.injEq, Option.some.injEq, Addr.mk.injEq, and_true, true_and] at hv
    obtain ⟨rfl, rfl⟩ := hv
    exact ⟨hb, heap_in hg⟩
theorem OwnB.free {base g c : Nat} {w : World} {l : List UInt8} (h : OwnB base w (some ⟨g, 0, none⟩) c l) (j : Nat) : w.frozen? ⟨g, j, none⟩ = false := World.ownsRow.frozenAt h j
theorem OwnB.stored {base g c : Nat} {w : World} {l : List UInt8} (h : OwnB base w (some ⟨g, 0, none⟩) c l) (j : Nat) (x : UInt8) : w.grownBy (w.setCell ⟨g, j, none⟩ (.int .u8 (x.toNat : Int))) (some g) := (World.ownsRow.stored h j (B8 x)).2
theorem kpt_drew (S : Nat → Prop) (w : World) : Kpt S w w.drew := ⟨rfl, rfl, rfl, Nat.le_refl _, fun _ _ _ => rfl⟩

/-- The lists lie in blocks of their own, each in its place. -/
def Lie (m : Nat) (g c n : Nat → Nat) (base : Nat) (w : World) (C : Nat → List UInt8) : Prop := ∀ j, j < m → OwnB base w (some ⟨g j, 0, none⟩) (c j) (C j) ∧ (C j).length = n j
def upd {α : Type} (C : Nat → α) (k : Nat) (l : α) : Nat → α := fun j => if j = k then l else C j
/-- The lists up to the k-th are marked, and the first i places of that one. -/
def Mk (m : Nat) (g c n : Nat → Nat) (base : Nat) (w : World) (k i : Nat) : Prop :=
  ∃ C, Lie m g c n base w C ∧ (∀ j, j < k → ∀ x, x < n j → bat (C j) x = mkB j x) ∧ ∀ x, x < i → bat (C k) x = mkB k x
theorem Mk.store {m : Nat} {g c n : Nat → Nat} {base : Nat} {w : World} {k i : Nat} (h : Mk m g c n base w k i) (hk : k < m) (hi : i < n k) (hne : ∀ j k, j < m → k < m → j ≠ k → g j ≠ g k) :
    Mk m g c n base (w.setCell ⟨g k, i, none⟩ (.int .u8 ((mkB k i).toNat : Int))) k (i + 1) := by
  obtain ⟨C, h1, h2, h3⟩ := h
  have hk1 := (h1 k hk).2
  refine ⟨upd C k ((C k).set i (mkB k i)), fun j hj => ?_, fun j hj x hx => ?_, fun x hx => ?_⟩
  · by_cases e : j = k
    · subst e
      simp only [upd, if_pos, List.length_set]
      exact ⟨(h1 j hj).1.store i _, hk1⟩
    · simp only [upd, if_neg e]
      exact ⟨(h1 j hj).1.kpt (Kpt.of_grown ((h1 k hk).1.stored i _) (S := fun b => b = g k) (fun j e => (Option.some.inj e).symm)) (hne j k hj hk e), (h1 j hj).2⟩
  · simp only [upd, if_neg (show ¬ j = k by omega)]
    exact h2 j hj x hx
  · simp only [upd, if_pos]
    rw [bat_set _ _ _ _ (by omega)]
    by_cases e : i = x
    · rw [if_pos e, e]
    · rw [if_neg e]
      exact h3 x (by omega)
theorem Mk.next {m : Nat} {g c n : Nat → Nat} {base : Nat} {w : World} {k : Nat} (h : Mk m g c n base w k (n k)) : Mk m g c n base w (k + 1) 0 := by
  obtain ⟨C, h1, h2, h3⟩ := h
  refine ⟨C, h1, fun j hj x hx => ?_, fun x hx => absurd hx (Nat.not_lt_zero _)⟩
  by_cases e : j = k
  · subst e; exact h3 x hx
  · exact h2 j (by omega) x hx
theorem Mk.drew {m : Nat} {g c n : Nat → Nat} {base : Nat} {w : World} {k i : Nat} (h : Mk m g c n base w k i) : Mk m g c n base w.drew k i := h
/-- The first t marks of list k. -/
def mks (k t : Nat) : List UInt8 := (List.range t).map (mkB k)
theorem mks_length (k t : Nat) : (mks k t).length = t := by simp [mks]
theorem mks_take (k a b : Nat) (h : a ≤ b) : (mks k b).take a = mks k a := by simp [mks, ← List.map_take, List.take_range, Nat.min_eq_left h]
theorem mks_succ (k t : Nat) : mks k (t + 1) = mks k t ++ [mkB k t] := by simp [mks, List.range_succ]
theorem bat_mks (k t x : Nat) (h : x < t) : bat (mks k t) x = mkB k x := by simp [mks, bat, h]
theorem Mk.all {m : Nat} {g c n : Nat → Nat} {base : Nat} {w : World} (h : Mk m g c n base w m 0) : Lie m g c n base w (fun j => mks j (n j)) := by
  obtain ⟨C, h1, h2, _⟩ := h
  intro j hj
  have e : C j = mks j (n j) := by
    apply List.ext_getElem (by rw [(h1 j hj).2, mks_length])
    intro x hx1 hx2
    have := h2 j hj x (by rw [← (h1 j hj).2]; exact hx1)
    simpa [bat, mks, hx1] using this
  have := (h1 j hj).1
  rw [e] at this
  exact ⟨this, mks_length _ _⟩
theorem RdB.kpt {S : Nat → Prop} {w w' : World} {b off : Nat} {l : List UInt8} (h : RdB w (some ⟨b, off, none⟩) l) (k : Kpt S w w') (hs : ¬ S b) : RdB w' (some ⟨b, off, none⟩) l := by
  intro hn
  obtain ⟨b', off', e, hc⟩ := h hn
  cases e
  exact ⟨b, off, rfl, fun j u hu => k.cell (hc j u hu) hs⟩
/-- The lists before the k-th are grown, the others not yet. -/
def Gr (m G : Nat) (g c n g' c' : Nat → Nat) (base B : Nat) (w : World) (k : Nat) : Prop :=
  (∀ j, j < m → k ≤ j → OwnB base w (some ⟨g j, 0, none⟩) (c j) (mks j (n j))) ∧
  (∀ j, j < k → RdB w (some ⟨g j, 0, none⟩) (mks j (n j)) ∧ RdB w (some ⟨g' j, 0, none⟩) (mks j (n j + 40)) ∧ (g' j = g j ∨ B ≤ g' j) ∧ g' j < w.heap.size) ∧
  ∃ cs : Array Value, w.heap[G]? = some (.cells cs 61 (0, 0)) ∧ cs.size = m ∧ ∀ j, j < k → cs[j]? = some (.slice (some ⟨g' j, 0, none⟩) (n j + 40) (c' j))
theorem Gr.step {m G : Nat} {g c n g' c' : Nat → Nat} {base B : Nat} {w w2 : World} {k gg cc : Nat} (h : Gr m G g c n g' c' base B w k) (hk : k < m)
    (hne : ∀ j k, j < m → k < m → j ≠ k → g j ≠ g k) (hG : ∀ j, j < m → g j ≠ G) (hGB : G < B) (hB : B ≤ w.heap.size) (hg : ∀ j, j < m → g j < B)
    (K1 : Kpt (fun b => b = g k ∨ w.heap.size ≤ b) w w2) (ho : OwnB base w2 (some ⟨gg, 0, none⟩) cc (mks k (n k + 40))) (hgg : gg = g k ∨ w.heap.size ≤ gg) (hr : RdB w2 (some ⟨g k, 0, none⟩) (mks k (n k))) :
    Gr m G g c n (upd g' k gg) (upd c' k cc) base B (w2.setCell ⟨G, k, none⟩ (.slice (some ⟨gg, 0, none⟩) (n k + 40) cc)) (k + 1) := by
  obtain ⟨ha, hb, cs, h1, h2, h3⟩ := h
  have K2 : Kpt (fun b => b = G) w2 (w2.setCell ⟨G, k, none⟩ (.slice (some ⟨gg, 0, none⟩) (n k + 40) cc)) := ⟨rfl, rfl, rfl, by simp [World.setCell], fun j hj hs => Below.heap_setCell _ _ _ _ hs⟩
  have hgk := hg k hk
  have hGk := hG k hk
  have hggG : gg ≠ G := by rcases hgg with e | e <;> omega
  refine ⟨fun j hj hkj => ?_, fun j hj => ?_, cs.setIfInBounds k (.slice (some ⟨gg, 0, none⟩) (n k + 40) cc), ?_, by simpa using h2, fun j hj => ?_⟩
  · have := hne j k hj hk (by omega)
    have h5 := hg j hj
    exact ((ha j hj (by omega)).kpt K1 (by omega)).kpt K2 (hG j hj)
  · by_cases e : j = k
    · subst e
      simp only [upd, if_pos]
      exact ⟨hr.kpt K2 hGk, ho.rd.kpt K2 hggG, by omega, Nat.lt_of_lt_of_le ho.lt.2 K2.size⟩
    · simp only [upd, if_neg e]
      obtain ⟨r1, r2, r3, r4⟩ := hb j (by omega)
      have := hne j k (by omega) hk e
      have h5 := hg j (by omega)
      have h6 := hG j (by omega)
      exact ⟨(r1.kpt K1 (by omega)).kpt K2 h6, (r2.kpt K1 (by omega)).kpt K2 (by omega), r3, Nat.lt_of_lt_of_le r4 (Nat.le_trans K1.size K2.size)⟩
  · exact heap_setCell_same w2 G k cs _ _ ((K1.block G (by omega) (by omega)).trans h1)
  · by_cases e : j = k
    · subst e
      simp [upd, h2, hk]
    · simp only [upd, if_neg e]
      rw [Array.getElem?_setIfInBounds_ne (by omega)]
      exact h3 j (by omega)
end Go.Proofs.Ytahlhdhljjpeoaa

/- append of so many noughts on bytes (the number stands in the place of a slice). -/
namespace Go.Proofs.Ytahlhdhljjpeoaa
open Go.RowKit
set_option linter.unusedVariables false

theorem zero_cells (m : Nat) : Builtin.zeroCells (Value.int .u8 0).cells m = (B8s (zeros m)).toArray := by
  have h : Builtin.zeroCells (Value.int .u8 0).cells m = madeCells (Value.int .u8 0).cells m := by
    unfold Builtin.zeroCells madeCells
    simp [Value.cells]
  rw [h]
  apply Array.ext'
  exact made_zeros m
theorem run_app_zeros {W : World} (ty : TypeId) (base : Nat) (v : Value) (n : Nat) (l : List UInt8) (HO : W.ownsRow base 5 1 v n (B8s l)) (m : Nat)
    (hbytes : n + m ≤ 100000000000000) (hbase : base ≤ W.heap.size) :
    ∃ v1 w1, (Builtin.append_ #[61, 3] ty #[v, .int .i64 (m : Int)]).run Try.prog W = .ok v1 w1 ∧ w1.ownsRow base 5 1 v1 (n + m) (B8s l ++ B8s (zeros m)) ∧ W.grownBy w1 v.ownBlock ∧ (v1.ownBlock = v.ownBlock ∨ v1.ownBlock = some W.heap.size) := by
  obtain ⟨i0, hi, hz0, hz1, hz2⟩ := info_parts info_u8
  have ht := Try.underlying61
  have hti := Try.underlying3
  have hl : (B8s (zeros m)).length = m * 1 := by simp [B8s, zeros]
  have hw : IntKind.i64.wrap (m : Int) = m := by rw [IntKind.wrap_i64]; omega
  have hw0 : IntKind.i64.wrap 0 = 0 := by rw [IntKind.wrap_i64]; rfl
  have hneg : ¬ ((m : Int) < 0) := by omega
  have hbig : ¬ (281474976710656 < (m : Int) * ((1 : Nat) : Int)) := by omega
  by_cases h0 : m = 0
  · subst h0
    have e0 : B8s (zeros 0) = [] := rfl
    refine ⟨v, W, ?_, by rw [e0]; simpa using HO, World.grownBy.refl W _, .inl rfl⟩
    rcases HO.2 with ⟨rfl, rfl⟩ | ⟨g, cap, cur, rfl, hbg, hg, hnc, hcm, hcs, htake⟩
    · simp [Builtin.append_, run_underlying ht, run_underlying hti, sizeOf, typeInfo, hi, asInt, asIntOf, hw0]
    · simp [Builtin.append_, run_underlying ht, run_underlying hti, sizeOf, typeInfo, hi, asInt, asIntOf, hw0, hnc, storeCells]
  · rcases HO.2 with ⟨rfl, rfl⟩ | ⟨g, cap, cur, rfl, hbg, hg, hnc, hcm, hcs, htake⟩
    · have hx : B8s l = [] := List.eq_nil_of_length_eq_zero (by simpa using HO.1)
      rw [hx]
      have hr := Lib.run_append_nil_zeros (P := Try.prog) W 61 3 ty 5 i0 (.int .u8 0) .i64 .i64 ht hti hi hz0 m (by omega) (by omega) (by omega) (by rw [hz2]; omega)
      rw [zero_cells] at hr
      refine ⟨_, _, hr, ?_, grown_new W _ _, .inr rfl⟩
      have := own_grown (W := W) (base := base) (e := 5) (size := 1) (z := .int .u8 0) (n := m) hl rfl (grownCap_ge W m 0 5) (grownCap_le_maxLen W m 0 5 (by simp only [maxLen]; omega)) hbase
      simpa using this
    · by_cases hroom : n + m ≤ cap
      · have hst := run_storeCells_at Try.prog g (n * i0.size) 5 (B8s (zeros m)) 0 cur W hg (by rw [hl, hz1]; omega) (B8s_one _)
        simp only [Nat.add_zero] at hst
        have ho := own_room (m := m) hg hbg hcm hcs htake hl hroom
        refine ⟨.slice (some ⟨g, 0, none⟩) (n + m) cap, _, ?_, ho.1, ho.2, .inl rfl⟩
        have hmz : ¬ (m * i0.size = 0) := by rw [hz1]; omega
        have hbig' : ¬ (281474976710656 < (m : Int) * (i0.bytes : Int)) := by rw [hz2]; exact hbig
        rw [hz1] at hst
        simp only [Nat.mul_one] at hst
        simp [Builtin.append_, run_underlying ht, run_underlying hti, sizeOf, typeInfo, zeroValue, hi, hz0, hz1, asInt, asIntOf, hw, hneg, hbig', hroom, h0, zero_cells, Addr.add_lit, hst]
      · have holds : ∀ j u, (B8s l)[j]? = some u → W.cell? ((⟨g, 0, none⟩ : Addr).add j) = some u := HO.cells (g := g) rfl
        have hlen : (B8s l).length = n * i0.size := by rw [hz1]; exact HO.1
        have hr := Lib.run_append_grow_zeros (P := Try.prog) W 61 3 ty 5 i0 (.int .u8 0) .i64 .i64 ht hti hi hz0 (some ⟨g, 0, none⟩) n cap (B8s l) (run_firstCells_some (P := Try.prog) W.drew i0.size n _ n cap (B8s l) hlen (by simpa using holds))
          m (by omega) (by omega) (by omega) (by omega) (by rw [hz2]; omega) (growslice_fits_wide (by omega) (by rw [hz2]; omega))
        rw [zero_cells] at hr
        refine ⟨_, _, hr, ?_, grown_new W _ _, .inr rfl⟩
        have := own_grown (W := W) (base := base) (e := 5) (size := 1) (z := .int .u8 0) (n := n + m) (xs := B8s l ++ B8s (zeros m)) (by rw [List.length_append, HO.1, hl, Nat.add_mul]) rfl (grownCap_ge W (n + m) cap 5) (grownCap_le_maxLen W (n + m) cap 5 (by simp only [maxLen]; omega)) hbase
        simpa using this
/-- append of noughts on bytes. -/
theorem app_zeros {ops : Array Oper} {rest : List Oper} {o : Oper} {a : Act} {Q : Exit → Act → World → Prop} {W : World} (hgd : o.guard = none) (s x : Operand)
    (ho : o.op = .call { callee := .builtin .append, args := #[s, x], argTypes := #[61, 3] })
    (base : Nat) (A0 : Option Addr) (c0 n0 : Nat) (l : List UInt8) (hn0 : n0 = l.length) (hs : a.eval s = .slice A0 n0 c0) (HO : OwnB base W A0 c0 l)
    (m : Nat) (y : Int) (hy : y = (m : Int)) (hx : a.eval x = .int .i64 y)
    (n1 : Nat) (hn1 : n1 = l.length + m) (hbytes : l.length + m ≤ 100000000000000) (w0 : World) (hB : Below base w0 W) (hbase : base ≤ W.heap.size)
    (h : ∀ A1 c1 w1, OwnB base w1 A1 c1 (l ++ zeros m) → Below base w0 w1 → wpList Try.prog ops Q rest (a.put o.dst (.slice A1 n1 c1)) w1) :
    wpList Try.prog ops Q (o :: rest) a W := by
  subst hn0 hn1 hy
  obtain ⟨v1, w1, hr, h1, h2, _⟩ := run_app_zeros (W := W) o.type base _ l.length l HO m hbytes hbase
  obtain ⟨A1, c1, rfl, _⟩ := own_slice h1
  refine wpList_plain hgd fun K hK => ?_
  unfold Oper.wp execOp
  simp only [ho, resolve, invoke, builtin, Sem.run_bind, Sem.run_pure, Result.andThen_ok, List.map_toArray, List.map_cons, List.map_nil, hs, hx, hr]
  refine hK _ _ (h A1 c1 w1 ?_ (hB.grown h2 hbase (own_base HO)))
  unfold OwnB
  rw [List.length_append, B8s_append, zeros_length]
  exact h1
end Go.Proofs.Ytahlhdhljjpeoaa

/- Blocks of bytes in memory (the general part of XDk, for seats without a disk). -/
namespace Go.Proofs.Ytahlhdhljjpeoaa
open Go.RowKit
variable {Q : Nat → Prop}
set_option maxHeartbeats 3200000
set_option linter.unusedVariables false
set_option linter.unusedSimpArgs false

/-- A block of bytes. -/
def U8 (w : World) (b : Nat) : Prop := ∃ cs : Array Value, w.heap[b]? = some (.cells cs 5 (0, 0))
/-- A slice of these bytes, in a block of bytes. -/
def Dat (Q : Nat → Prop) (w : World) (v : Value) (l : List UInt8) : Prop :=
  ∃ (b off c : Nat) (cs : Array Value), v = .slice (some ⟨b, off, none⟩) l.length c ∧ w.heap[b]? = some (.cells cs 5 (0, 0)) ∧ (∀ j u, (B8s l)[j]? = some u → cs[off + j]? = some u) ∧ l.length ≤ c ∧ c ≤ 9223372036854775807 ∧ Q b
theorem Dat.rd {w : World} {v : Value} {l : List UInt8} (h : Dat Q w v l) : ∃ b off c, v = .slice (some ⟨b, off, none⟩) l.length c ∧ RdB w (some ⟨b, off, none⟩) l ∧ U8 w b := by
  obtain ⟨b, off, c, cs, rfl, hh, hc, _⟩ := h
  refine ⟨b, off, c, rfl, fun hn => ⟨b, off, rfl, fun j u hu => ?_⟩, cs, hh⟩
  rw [cell_of_row _ _ _ _ _ _ hh]
  exact hc j u hu
theorem Dat.kpt {S : Nat → Prop} {w w' : World} {v : Value} {l : List UInt8} (h : Dat Q w v l) (k : Kpt S w w') (hs : ∀ b, S b → ¬ U8 w b) : Dat Q w' v l := by
  obtain ⟨b, off, c, cs, rfl, hh, hc⟩ := h
  exact ⟨b, off, c, cs, rfl, (k.block b (heap_in hh) (fun x => hs b x ⟨cs, hh⟩)).trans hh, hc⟩
theorem Dat.below {w w' : World} {v : Value} {l : List UInt8} (h : Dat Q w v l) (k : Below w.heap.size w w') : Dat Q w' v l := h.kpt (S := fun _ => False) (.of_below k) (fun _ h => h.elim)
theorem Dat.cap {w : World} {A : Option Addr} {n c : Nat} {l : List UInt8} (h : Dat Q w (.slice A n c) l) : l.length ≤ c ∧ c ≤ 9223372036854775807 := by
  obtain ⟨b, off, c', cs, e, hh, hc, h1, h2, _⟩ := h
  simp only [Value.slice.injEq] at e
  obtain ⟨_, _, rfl⟩ := e
  exact ⟨h1, h2⟩
theorem U8.kpt {S : Nat → Prop} {w w' : World} {b : Nat} (h : U8 w b) (k : Kpt S w w') (hs : ∀ b, S b → ¬ U8 w b) : U8 w' b := by
  obtain ⟨cs, hh⟩ := h
  exact ⟨cs, (k.block b (heap_in hh) (fun x => hs b x ⟨cs, hh⟩)).trans hh⟩
/-- A row of bytes of the call's own is such a slice. -/
theorem Dat.own {base g c : Nat} {w : World} {l : List UInt8} (h : OwnB base w (some ⟨g, 0, none⟩) c l) (hq : Q g) : Dat Q w (.slice (some ⟨g, 0, none⟩) l.length c) l := by
  rcases h.2 with ⟨hv, _⟩ | ⟨g', cap, cur, hv, hb, hg, hn, hm, hs, ht⟩
  · simp at hv
  · simp only [Value.slice.injEq, Option.some.injEq, Addr.mk.injEq, and_true, true_and] at hv
    obtain ⟨rfl, rfl⟩ := hv
    refine ⟨g, 0, c, cur, rfl, hg, fun j u hu => ?_, h.cap.1, h.cap.2, hq⟩
    rw [Nat.zero_add]
    have hj : j < (B8s l).length := (List.getElem?_eq_some_iff.1 hu).1
    rw [← ht, List.getElem?_take] at hu
    split at hu
    · simpa using hu
    · cases hu
theorem OwnB.u8 {base g c : Nat} {w : World} {l : List UInt8} (h : OwnB base w (some ⟨g, 0, none⟩) c l) : U8 w g := by
  obtain ⟨b, off, c', h1, h2, h3⟩ := (Dat.own (Q := fun _ => True) h trivial).rd
  simp only [Value.slice.injEq, Option.some.injEq, Addr.mk.injEq, and_true, true_and] at h1
  obtain ⟨⟨rfl, rfl⟩, rfl⟩ := h1
  exact h3
theorem own_adr {base c : Nat} {w : World} {a : Option Addr} {l : List UInt8} (h : OwnB base w a c l) (hn : l ≠ []) : ∃ g, a = some ⟨g, 0, none⟩ ∧ base ≤ g ∧ g < w.heap.size := by
  obtain ⟨g, rfl, hb, _⟩ := h.at_ hn
  exact ⟨g, rfl, hb, h.lt.2⟩
theorem OwnB.kpt' {S : Nat → Prop} {base g c : Nat} {w w' : World} {l : List UInt8} (h : OwnB base w (some ⟨g, 0, none⟩) c l) (k : Kpt S w w') (hs : ∀ b, S b → ¬ U8 w b) : OwnB base w' (some ⟨g, 0, none⟩) c l :=
  h.kpt k (fun x => hs g x h.u8)
/-- Lists of such slices. -/
def Dats (Q : Nat → Prop) (w : World) (vs : List Value) (ls : List (List UInt8)) : Prop := vs.length = ls.length ∧ ∀ (i : Nat) (v : Value) (l : List UInt8), vs[i]? = some v → ls[i]? = some l → Dat Q w v l
theorem Dats.kpt {S : Nat → Prop} {w w' : World} {vs : List Value} {ls : List (List UInt8)} (h : Dats Q w vs ls) (k : Kpt S w w') (hs : ∀ b, S b → ¬ U8 w b) : Dats Q w' vs ls :=
  ⟨h.1, fun i v l h1 h2 => (h.2 i v l h1 h2).kpt k hs⟩
theorem Dats.below {w w' : World} {vs : List Value} {ls : List (List UInt8)} (h : Dats Q w vs ls) (k : Below w.heap.size w w') : Dats Q w' vs ls := ⟨h.1, fun i v l h1 h2 => (h.2 i v l h1 h2).below k⟩
theorem Dats.nil (w : World) : Dats Q w [] [] := ⟨rfl, fun i v l h => by simp at h⟩
theorem Dats.at_ {w : World} {vs : List Value} {ls : List (List UInt8)} (h : Dats Q w vs ls) {i : Nat} (hi : i < ls.length) : ∃ v, vs[i]? = some v ∧ Dat Q w v ls[i] := by
  have h1 : i < vs.length := by rw [h.1]; exact hi
  exact ⟨vs[i], List.getElem?_eq_getElem h1, h.2 i _ _ (List.getElem?_eq_getElem h1) (List.getElem?_eq_getElem hi)⟩
theorem Dats.snoc {w : World} {vs : List Value} {ls : List (List UInt8)} (h : Dats Q w vs ls) {v : Value} {l : List UInt8} (hd : Dat Q w v l) : Dats Q w (vs ++ [v]) (ls ++ [l]) := by
  refine ⟨by simp [h.1], fun i u m h1 h2 => ?_⟩
  have e := h.1
  by_cases hi : i < vs.length
  · rw [List.getElem?_append_left hi] at h1
    rw [List.getElem?_append_left (by omega)] at h2
    exact h.2 i u m h1 h2
  · rw [List.getElem?_append_right (by omega)] at h1
    rw [List.getElem?_append_right (by omega)] at h2
    rw [e] at h1
    generalize i - ls.length = k at *
    cases k with
    | zero => simp at h1 h2; subst h1 h2; exact hd
    | succ k => simp at h1
theorem Dats.set {w : World} {vs : List Value} {ls : List (List UInt8)} (h : Dats Q w vs ls) (k : Nat) {v : Value} {l : List UInt8} (hd : Dat Q w v l) : Dats Q w (vs.set k v) (ls.set k l) := by
  refine ⟨by simp [h.1], fun i u m h1 h2 => ?_⟩
  have e := h.1
  rw [List.getElem?_set] at h1 h2
  by_cases hk : k = i
  · subst hk
    rw [if_pos rfl] at h1 h2
    split at h1 <;> simp_all
  · rw [if_neg hk] at h1 h2
    exact h.2 i u m h1 h2

theorem row_not_u8 {w : World} {g : Nat} {cs : Array Value} {t : TypeId} {f : Nat × Nat} (h : w.heap[g]? = some (.cells cs t f)) (ht : t ≠ 5) : ¬ U8 w g := by
  rintro ⟨cs', h'⟩
  rw [h] at h'
  simp only [Option.some.injEq, Obj.cells.injEq] at h'
  exact ht h'.2.1
theorem own_row {w : World} {base n size : Nat} {e : TypeId} {v : Value} {xs : List Value} (h : w.ownsRow base e size v n xs) {b : Nat} (hb : v.ownBlock = some b) : base ≤ b ∧ b < w.heap.size ∧ ∃ cs, w.heap[b]? = some (.cells cs e (0, 0)) := by
  rcases h.2 with ⟨rfl, _⟩ | ⟨g', cap, cur, rfl, hb', hg, r⟩
  · simp [Value.ownBlock] at hb
  · simp only [Value.ownBlock, Option.map_some, Option.some.injEq] at hb
    subst hb
    exact ⟨hb', heap_in hg, cur, hg⟩
theorem own_kpt {S : Nat → Prop} {w w' : World} {base n size : Nat} {e : TypeId} {v : Value} {xs : List Value} (h : w.ownsRow base e size v n xs) (k : Kpt S w w') (hs : ∀ b, v.ownBlock = some b → ¬ S b) : w'.ownsRow base e size v n xs := by
  refine ⟨h.1, ?_⟩
  rcases h.2 with h0 | ⟨g', cap, cur, rfl, hb, hg, r⟩
  · exact .inl h0
  · exact .inr ⟨g', cap, cur, rfl, hb, (k.block g' (heap_in hg) (hs g' rfl)).trans hg, r⟩
theorem Kpt.setCell {S : Nat → Prop} {v w : World} (h : Kpt S v w) {p : Addr} (hp : S p.block) (u : Value) : Kpt S v (w.setCell p u) :=
  ⟨h.os, h.tape, h.output, by simpa [World.setCell] using h.size, fun j hj hs => (heap_setCell_other w p j u (fun e => hs (e ▸ hp))).trans (h.block j hj hs)⟩
theorem Kpt.below {S : Nat → Prop} {v w w' : World} (h : Kpt S v w) (b : Below w.heap.size w w') : Kpt S v w' := h.trans (.of_below b)
theorem Kpt.grown {S : Nat → Prop} {v w w' : World} {row : Option Nat} (h : Kpt S v w) (g : w.grownBy w' row) (hr : ∀ b, row = some b → S b) : Kpt S v w' := h.trans (.of_grown g hr)
/-- What may hold a disk's bytes. -/
def Qp (Q : Nat → Prop) (w : World) (b : Nat) : Prop := Q b ∨ w.heap.size ≤ b
theorem Dat.monoQ {Q' : Nat → Prop} {w : World} {v : Value} {l : List UInt8} (h : Dat Q w v l) (hq : ∀ b, Q b → Q' b) : Dat Q' w v l := by
  obtain ⟨b, off, c, cs, e, h1, h2, h3, h4, h5⟩ := h
  exact ⟨b, off, c, cs, e, h1, h2, h3, h4, hq b h5⟩
theorem Dats.monoQ {Q' : Nat → Prop} {w : World} {vs : List Value} {ls : List (List UInt8)} (h : Dats Q w vs ls) (hq : ∀ b, Q b → Q' b) : Dats Q' w vs ls := ⟨h.1, fun i v l h1 h2 => (h.2 i v l h1 h2).monoQ hq⟩
/-- Stores into blocks that hold none of a disk's bytes, and are none of its own. -/
theorem Dat.kptQ {T : Nat → Prop} {w w' : World} {v : Value} {l : List UInt8} (h : Dat Q w v l) (k : Kpt T w w') (hT : ∀ b, Q b → ¬ T b) : Dat Q w' v l := by
  obtain ⟨b, off, c, cs, e, h1, h2, h3, h4, h5⟩ := h
  exact ⟨b, off, c, cs, e, (k.block b (heap_in h1) (hT b h5)).trans h1, h2, h3, h4, h5⟩
theorem Dats.kptQ {T : Nat → Prop} {w w' : World} {vs : List Value} {ls : List (List UInt8)} (h : Dats Q w vs ls) (k : Kpt T w w') (hT : ∀ b, Q b → ¬ T b) : Dats Q w' vs ls := ⟨h.1, fun i v l h1 h2 => (h.2 i v l h1 h2).kptQ k hT⟩
theorem frow {w : World} {g : Nat} {cs : Array Value} {t : TypeId} (h : w.heap[g]? = some (.cells cs t (0, 0))) (j : Nat) : w.frozen? ⟨g, j, none⟩ = false := frozen_of_row w g j cs t h
end Go.Proofs.Ytahlhdhljjpeoaa
