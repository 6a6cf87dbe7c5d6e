/- Texts joined: Frame3. -/
import Derived.Deep.Slices
import Derived.Test.YtahlhdhljjpeoaaGBitsInodes10
import Derived.Test.YtahlhdhljjpeoaaGBitsInodes22
/- How extents and inodes that came in are opened, for the rows. -/
namespace Go.Proofs.Ytahlhdhljjpeoaa
open Go.ChangeShapes Go.WideShapes Go.ChangeAt Go.RowKit Go.Deep
set_option linter.unusedVariables false
set_option maxRecDepth 100000
theorem cells_ext : Try.prog.cellsOf 24 = 3 := by kernel_rfl
theorem bytes_ext : Try.prog.bytesOf 24 = 24 := by kernel_rfl
theorem sup_of (ns : List Int) (h : ns.length = 4) {p : Int → Prop} (hb : ∀ n ∈ ns, p n) : ∃ s : Sup, Value.agg (ns.map (Value.int .i64)).toArray = s.val ∧ p s.bl ∧ p s.ep ∧ p s.sq ∧ p s.tl := by
  match ns, h with
  | [a, b, c, d], _ => exact ⟨⟨a, b, c, d⟩, rfl, hb a (by simp), hb b (by simp), hb c (by simp), hb d (by simp)⟩
theorem three_of {ns : List Int} (h : ns.length = 3) : ∃ a b c, ns = [a, b, c] := by
  match ns, h with
  | [a, b, c], _ => exact ⟨a, b, c, rfl⟩
section
variable {H : Type} {enc : TypeId × Value → H} {W : World} {base : Nat}
theorem trod_exts {fuel : Nat} {cs : List Value} {x : DataW H × List MemPlace} (h : DataW.trod enc Try.prog W base (fun _ => true) true fuel 22 cs = some x) :
    ∃ (a : Option Addr) (c : Nat) (l : List Ext), cs = [.slice a l.length c] ∧ l.length ≤ c ∧ c ≤ maxLen ∧ RdX W a l ∧ okX l ∧ (l = [] ∨ ∃ elems spare, x.1 = .slice elems spare ∧ elems.length = l.length) := by
  rcases open_slice Try.underlying22 h with ⟨rfl, rfl⟩ | ⟨a, len, cap, m, n, D, Pl, rfl, hb, hl, hm, hmm, rfl, hi⟩
  · exact ⟨none, 0, [], rfl, Nat.le_refl _, Nat.zero_le _, RdX.nil _ _, fun k hk => absurd hk (Nat.not_lt_zero _), .inl rfl⟩
  · rw [cells_ext] at hi
    simp only [if_true] at hmm
    have key : ∀ i, i < len → ∃ e : Ext, e.ok ∧ W.cell? (a.add (i * 3)) = some (.int .i64 e.at_) ∧ W.cell? (a.add (i * 3 + 1)) = some (.int .i64 e.st) ∧ W.cell? (a.add (i * 3 + 2)) = some (.int .i64 e.ct) := by
      intro i hil
      obtain ⟨cs', hc, ht⟩ := hi i (by omega)
      obtain ⟨ns, rfl, hn, _, hbd⟩ := trod_iagg (T := 3) Try.underlying24 (by kernel_rfl) (by kernel_rfl) (by kernel_rfl) Try.underlying3 ht
      obtain ⟨p, q, r, rfl⟩ := three_of (ns := ns) hn
      obtain ⟨_, _, hat⟩ := World.cells?_some hc
      have k0 := hat 0 (by decide); have k1 := hat 1 (by decide); have k2 := hat 2 (by decide)
      rw [add_add] at k0 k1 k2
      refine ⟨⟨p, q, r⟩, ⟨hbd p (by simp), hbd q (by simp), hbd r (by simp)⟩, ?_, ?_, ?_⟩
      · simpa using k0
      · simpa using k1
      · simpa using k2
    have build : ∀ n, n ≤ len → ∃ l : List Ext, l.length = n ∧ ∀ i, i < n → (xat l i).ok ∧ W.cell? (a.add (i * 3)) = some (.int .i64 (xat l i).at_) ∧ W.cell? (a.add (i * 3 + 1)) = some (.int .i64 (xat l i).st) ∧ W.cell? (a.add (i * 3 + 2)) = some (.int .i64 (xat l i).ct) := by
      intro n
      induction n with
      | zero => exact fun _ => ⟨[], rfl, fun i h => absurd h (Nat.not_lt_zero _)⟩
      | succ n ih =>
        intro hn
        obtain ⟨l, h1, h2⟩ := ih (by omega)
        obtain ⟨e, h3⟩ := key n (by omega)
        refine ⟨l ++ [e], by simp [h1], fun i hi => ?_⟩
        by_cases he : i = n
        · subst he
          have : xat (l ++ [e]) i = e := by simp [xat, List.getD_eq_getElem?_getD, ← h1]
          rw [this]; exact h3
        · have : xat (l ++ [e]) i = xat l i := by simp [xat, List.getD_eq_getElem?_getD, List.getElem?_append_left (show i < l.length by omega)]
          rw [this]; exact h2 i (by omega)
    obtain ⟨l, h1, h2⟩ := build len (Nat.le_refl _)
    refine ⟨some a, cap, l, by rw [h1], by omega, hm, ?_, fun k hk => (h2 k (by omega)).1, .inr ⟨_, _, rfl, by simp [h1]⟩⟩
    intro hne
    have hpos : 0 < len := by
      rcases Nat.eq_zero_or_pos len with h0 | h0
      · rw [h0] at h1
        rw [List.eq_nil_of_length_eq_zero h1] at hne
        exact absurd rfl hne
      · exact h0
    have h0 := (h2 0 hpos).2.1
    obtain ⟨b, off, spot⟩ := a
    have hspot : spot = none := by simpa [Addr.add] using World.cell?_spot h0
    subst hspot
    refine ⟨b, off, rfl, fun j u hu => ?_⟩
    have hj : j < 3 * l.length := by
      have := (List.getElem?_eq_some_iff.1 hu).1
      rwa [extCells_length] at this
    have hk : j / 3 < l.length := by omega
    have e3 := extCells_at l (j / 3) (j % 3) hk (by omega)
    rw [show 3 * (j / 3) + j % 3 = j by omega] at e3
    rw [e3] at hu
    obtain ⟨_, c0, c1, c2⟩ := h2 (j / 3) (by omega)
    have hx : xat l (j / 3) = l[j / 3] := by simp [xat, List.getD_eq_getElem?_getD, List.getElem?_eq_getElem hk]
    rw [add_plain] at c0 c1 c2
    rw [hx] at c0 c1 c2
    have hr : j % 3 = 0 ∨ j % 3 = 1 ∨ j % 3 = 2 := by omega
    rcases hr with hr | hr | hr
    · rw [hr] at hu; simp [Ext.cells] at hu; subst hu
      rw [show off + j = off + j / 3 * 3 by omega]; exact c0
    · rw [hr] at hu; simp [Ext.cells] at hu; subst hu
      rw [show off + j = off + (j / 3 * 3 + 1) by omega]; exact c1
    · rw [hr] at hu; simp [Ext.cells] at hu; subst hu
      rw [show off + j = off + (j / 3 * 3 + 2) by omega]; exact c2
theorem ext_reach {n m : Nat} (h : (n + m) * 24 ≤ reachBytes) : n ≤ 7000000000000 := by
  have : reachBytes < 2 ^ 47 := reachBytes_lt
  have e : (2 : Nat) ^ 47 = 140737488355328 := by decide
  omega
/-- A slice of extents that came in. -/
theorem open_exts {v : Value} {d : DataW H} {ps : List MemPlace} {ts : List TypeId} {ds : List (DataW H)} {j : Nat}
    (hsz : (DataW.weightsEach Try.prog ts ds).all (· ≤ reachBytes) = true) (ht : ts[j]? = some 22) (hd : ds[j]? = some d)
    (hv : ∃ a len cap, v = .slice a len cap)
    (h : DataW.Trod enc Try.prog W base (fun _ => true) true 22 v d ps) :
    ∃ (a : Option Addr) (c : Nat) (l : List Ext), v = .slice a l.length c ∧ l.length ≤ 7000000000000 ∧ RdX W a l ∧ okX l := by
  obtain ⟨fuel, hf⟩ := h
  obtain ⟨a0, len0, cap0, rfl⟩ := hv
  obtain ⟨a, c, l, hcs, h1, _, h2, h3, h4⟩ := trod_exts hf
  simp [Value.cells] at hcs
  obtain ⟨rfl, rfl, rfl⟩ := hcs
  refine ⟨_, _, l, rfl, ?_, h2, h3⟩
  rcases h4 with rfl | ⟨elems, spare, rfl, he⟩
  · exact Nat.zero_le _
  · have z := sized_slice hsz ht hd Try.underlying22
    rw [bytes_ext, he] at z
    exact ext_reach z
theorem five_of {α : Type} {cs : Array α} (h : cs.size = 5) : ∃ a b c d e, cs = #[a, b, c, d, e] := by
  obtain ⟨l⟩ := cs
  match l, h with
  | [a, b, c, d, e], _ => exact ⟨a, b, c, d, e, rfl⟩
theorem cells_kind : Try.prog.cellsOf 52 = 1 := by kernel_rfl
theorem cells_int : Try.prog.cellsOf 3 = 1 := by kernel_rfl
theorem cells_exts : Try.prog.cellsOf 22 = 1 := by kernel_rfl
theorem cells_ind : Try.prog.cellsOf 54 = 5 := by kernel_rfl
/-- An inode that came in. -/
theorem open_ind {r : Reach} {b0 : Nat} {v : Value} {d : DataW H} {ps : List MemPlace} {ts : List TypeId} {ds : List (DataW H)} {j : Nat}
    (hsz : (DataW.weightsEach Try.prog ts ds).all (· ≤ reachBytes) = true) (ht : ts[j]? = some 54) (hd : ds[j]? = some d)
    (hv : Value.okWide Try.prog W r b0 54 v)
    (h : DataW.Trod enc Try.prog W base (fun _ => true) true 54 v d ps) :
    ∃ (a : Option Addr) (c : Nat) (n : Ind), v = n.val a c ∧ n.in_ ∧ RdX W a n.dir := by
  obtain ⟨cs, rfl, hsize⟩ := okWide_struct Try.underlying54 hv
  obtain ⟨c0, c1, c2, c3, c4, rfl⟩ := five_of (hsize.trans cells_ind)
  obtain ⟨fuel, hf⟩ := h
  obtain ⟨xs, m, _, hx, _, hlen, hg⟩ := DataW.trod_struct Try.underlying54 hf
  have hl5 : xs.length = 5 := hlen
  have gk : ∀ (i : Nat) (T : TypeId) (u : Value), i < 5 → DataW.trod enc Try.prog W base (fun _ => true) true m T [u] = xs[i]? → ∃ y, xs[i]? = some y ∧ DataW.trod enc Try.prog W base (fun _ => true) true m T [u] = some y := fun i T u hi h => ⟨_, List.getElem?_eq_getElem (by omega), by rw [h]; exact List.getElem?_eq_getElem (by omega)⟩
  obtain ⟨y0, e0, g0⟩ := gk 0 52 c0 (by decide) (by simpa [Value.cells, cells_kind] using hg 0 _ rfl)
  obtain ⟨y1, e1, g1⟩ := gk 1 3 c1 (by decide) (by simpa [Value.cells, cells_int] using hg 1 _ rfl)
  obtain ⟨y2, e2, g2⟩ := gk 2 3 c2 (by decide) (by simpa [Value.cells, cells_int] using hg 2 _ rfl)
  obtain ⟨y3, e3, g3⟩ := gk 3 22 c3 (by decide) (by simpa [Value.cells, cells_exts] using hg 3 _ rfl)
  obtain ⟨y4, e4, g4⟩ := gk 4 3 c4 (by decide) (by simpa [Value.cells, cells_int] using hg 4 _ rfl)
  obtain ⟨k, q0, _, w0⟩ := DataW.trod_int Try.underlying52 g0
  obtain ⟨ln, q1, _, w1⟩ := DataW.trod_int Try.underlying3 g1
  obtain ⟨sz, q2, _, w2⟩ := DataW.trod_int Try.underlying3 g2
  obtain ⟨nd, q4, _, w4⟩ := DataW.trod_int Try.underlying3 g4
  obtain ⟨a, c, l, q3, _, _, hr, hok, hel⟩ := trod_exts g3
  simp only [List.cons.injEq, and_true] at q0 q1 q2 q3 q4
  subst q0; subst q1; subst q2; subst q3; subst q4
  have b1 := wf63.1 w1; have b2 := wf63.1 w2; have b4 := wf63.1 w4
  have hk : 0 ≤ k ∧ k ≤ 255 := by
    have h1 : IntKind.u8.min = 0 := rfl
    have h2 : IntKind.u8.max = 255 := rfl
    simpa [Lit.wf, h1, h2] using w0
  obtain ⟨k, rfl⟩ := Int.eq_ofNat_of_zero_le hk.1
  refine ⟨a, c, ⟨k, ln, sz, nd, l⟩, rfl, ⟨by simp only; omega, b1, b2, b4, ?_, hok⟩, hr⟩
  rcases hel with rfl | ⟨elems, spare, hy3, hlen3⟩
  · exact Nat.zero_le _
  · have hparts : d = .agg (xs.map (·.1)) := (Prod.mk.inj hx).1
    have hmem : (elems.length + spare.length) * Try.prog.bytesOf 24 ∈ d.weights Try.prog 54 := by
      rw [hparts]
      simp only [DataW.weights, Try.underlying54]
      refine DataW.weights_mem_each (j := 3) (t := 22) (d := .slice elems spare) rfl (by rw [List.getElem?_map, e3, ← hy3]; rfl) _ ?_
      simp [DataW.weights, Try.underlying22]
    have z := List.all_eq_true.1 hsz _ (DataW.weights_mem_each ht hd _ hmem)
    rw [bytes_ext, hlen3] at z
    exact ext_reach (by simpa using z)
end
end Go.Proofs.Ytahlhdhljjpeoaa
