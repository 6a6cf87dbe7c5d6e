/- Texts joined: Apart2, Zeros, Dat, Pl, PlA. -/
import Derived.Lib.AppendZerosOnto
import Derived.Test.YtahlhdhljjpeoaaGBitsErrors1
/- ledgerstonelow.ApartBytes. -/
namespace Go.Proofs.Ytahlhdhljjpeoaa
open Go.RowKit
set_option maxHeartbeats 3200000
set_option linter.unusedVariables false
set_option linter.unusedSimpArgs false

theorem heap_in {w : World} {g : Nat} {o : Obj} (h : w.heap[g]? = some o) : g < w.heap.size := (Array.getElem?_eq_some_iff.1 h).1
/-- What lies in no block of S is as it was. -/
structure Kpt (S : Nat → Prop) (w w' : World) : Prop where
  os : w'.os = w.os
  tape : w'.tape = w.tape
  output : w'.output = w.output
  size : w.heap.size ≤ w'.heap.size
  block : ∀ j, j < w.heap.size → ¬ S j → w'.heap[j]? = w.heap[j]?
theorem Kpt.refl (S : Nat → Prop) (w : World) : Kpt S w w := ⟨rfl, rfl, rfl, Nat.le_refl _, fun _ _ _ => rfl⟩
theorem Kpt.trans {S : Nat → Prop} {a b c : World} (h : Kpt S a b) (k : Kpt S b c) : Kpt S a c :=
  ⟨k.os.trans h.os, k.tape.trans h.tape, k.output.trans h.output, Nat.le_trans h.size k.size, fun j hj hs => (k.block j (Nat.lt_of_lt_of_le hj h.size) hs).trans (h.block j hj hs)⟩
theorem Kpt.of_grown {S : Nat → Prop} {w w' : World} {row : Option Nat} (h : w.grownBy w' row) (hr : ∀ j, row = some j → S j) : Kpt S w w' := by
  obtain ⟨h1, h2, h3, h4, h5⟩ := h
  exact ⟨h1, h2, h3, h4, fun j hj hs => h5 j hj (fun e => hs (hr j e.symm))⟩
theorem Kpt.of_below {S : Nat → Prop} {w w' : World} (h : Below w.heap.size w w') : Kpt S w w' := ⟨h.os, h.tape, h.output, h.size, fun j hj _ => h.block j hj⟩
theorem Kpt.mono {S T : Nat → Prop} {w w' : World} (h : Kpt S w w') (hs : ∀ j, S j → T j) : Kpt T w w' := ⟨h.os, h.tape, h.output, h.size, fun j hj hn => h.block j hj (fun x => hn (hs j x))⟩
theorem Kpt.cell {S : Nat → Prop} {w w' : World} (h : Kpt S w w') {b off : Nat} {v : Value} (hc : w.cell? ⟨b, off, none⟩ = some v) (hs : ¬ S b) : w'.cell? ⟨b, off, none⟩ = some v := by
  have hlt : b < w.heap.size := World.block_lt_of_cell? w ⟨b, off, none⟩ hc
  rw [← hc]
  simp only [World.cell?, h.block b hlt hs]
theorem OwnB.kpt {S : Nat → Prop} {base g c : Nat} {w w' : World} {l : List UInt8} (h : OwnB base w (some ⟨g, 0, none⟩) c l) (k : Kpt S w w') (hs : ¬ S g) : OwnB base w' (some ⟨g, 0, none⟩) c l := by
  refine ⟨h.1, ?_⟩
  rcases h.2 with ⟨hv, _⟩ | ⟨g', cap, cur, hv, hb, hg, r⟩
  · simp at hv
  · simp only [Value.slice.injEq, Option.some.injEq, Addr.mk.injEq, and_true, true_and] at hv
    obtain ⟨rfl, rfl⟩ := hv
    exact .inr ⟨g, c, cur, rfl, hb, (k.block g (heap_in hg) hs).trans hg, r⟩
theorem OwnB.lt {base g c : Nat} {w : World} {l : List UInt8} (h : OwnB base w (some ⟨g, 0, none⟩) c l) : base ≤ g ∧ g < w.heap.size := by
  rcases h.2 with ⟨hv, _⟩ | ⟨g', cap, cur, hv, hb, hg, r⟩
  · simp at hv
  · simp only [Value.slice.injEq, Option.some.injEq, Addr.mk.injEq, and_true, true_and] at hv
    obtain ⟨rfl, rfl⟩ := hv
    exact ⟨hb, heap_in hg⟩
theorem OwnB.free {base g c : Nat} {w : World} {l : List UInt8} (h : OwnB base w (some ⟨g, 0, none⟩) c l) (j : Nat) : w.frozen? ⟨g, j, none⟩ = false := World.ownsRow.frozenAt h j
theorem OwnB.stored {base g c : Nat} {w : World} {l : List UInt8} (h : OwnB base w (some ⟨g, 0, none⟩) c l) (j : Nat) (x : UInt8) : w.grownBy (w.setCell ⟨g, j, none⟩ (.int .u8 (x.toNat : Int))) (some g) := (World.ownsRow.stored h j (B8 x)).2
theorem kpt_drew (S : Nat → Prop) (w : World) : Kpt S w w.drew := ⟨rfl, rfl, rfl, Nat.le_refl _, fun _ _ _ => rfl⟩

/-- The lists lie in blocks of their own, each in its place. -/
def Lie (m : Nat) (g c n : Nat → Nat) (base : Nat) (w : World) (C : Nat → List UInt8) : Prop := ∀ j, j < m → OwnB base w (some ⟨g j, 0, none⟩) (c j) (C j) ∧ (C j).length = n j
def upd {α : Type} (C : Nat → α) (k : Nat) (l : α) : Nat → α := fun j => if j = k then l else C j
/-- The lists up to the k-th are marked, and the first i places of that one. -/
def Mk (m : Nat) (g c n : Nat → Nat) (base : Nat) (w : World) (k i : Nat) : Prop :=
  ∃ C, Lie m g c n base w C ∧ (∀ j, j < k → ∀ x, x < n j → bat (C j) x = mkB j x) ∧ ∀ x, x < i → bat (C k) x = mkB k x
theorem Mk.store {m : Nat} {g c n : Nat → Nat} {base : Nat} {w : World} {k i : Nat} (h : Mk m g c n base w k i) (hk : k < m) (hi : i < n k) (hne : ∀ j k, j < m → k < m → j ≠ k → g j ≠ g k) :
    Mk m g c n base (w.setCell ⟨g k, i, none⟩ (.int .u8 ((mkB k i).toNat : Int))) k (i + 1) := by
  obtain ⟨C, h1, h2, h3⟩ := h
  have hk1 := (h1 k hk).2
  refine ⟨upd C k ((C k).set i (mkB k i)), fun j hj => ?_, fun j hj x hx => ?_, fun x hx => ?_⟩
  · by_cases e : j = k
    · subst e
      simp only [upd, if_pos, List.length_set]
      exact ⟨(h1 j hj).1.store i _, hk1⟩
    · simp only [upd, if_neg e]
      exact ⟨(h1 j hj).1.kpt (Kpt.of_grown ((h1 k hk).1.stored i _) (S := fun b => b = g k) (fun j e => (Option.some.inj e).symm)) (hne j k hj hk e), (h1 j hj).2⟩
  · simp only [upd, if_neg (show ¬ j = k by omega)]
    exact h2 j hj x hx
  · simp only [upd, if_pos]
    rw [bat_set _ _ _ _ (by omega)]
    by_cases e : i = x
    · rw [if_pos e, e]
    · rw [if_neg e]
      exact h3 x (by omega)
theorem Mk.next {m : Nat} {g c n : Nat → Nat} {base : Nat} {w : World} {k : Nat} (h : Mk m g c n base w k (n k)) : Mk m g c n base w (k + 1) 0 := by
  obtain ⟨C, h1, h2, h3⟩ := h
  refine ⟨C, h1, fun j hj x hx => ?_, fun x hx => absurd hx (Nat.not_lt_zero _)⟩
  by_cases e : j = k
  · subst e; exact h3 x hx
  · exact h2 j (by omega) x hx
theorem Mk.drew {m : Nat} {g c n : Nat → Nat} {base : Nat} {w : World} {k i : Nat} (h : Mk m g c n base w k i) : Mk m g c n base w.drew k i := h
/-- The first t marks of list k. -/
def mks (k t : Nat) : List UInt8 := (List.range t).map (mkB k)
theorem mks_length (k t : Nat) : (mks k t).length = t := by simp [mks]
theorem mks_take (k a b : Nat) (h : a ≤ b) : (mks k b).take a = mks k a := by simp [mks, ← List.map_take, List.take_range, Nat.min_eq_left h]
theorem mks_succ (k t : Nat) : mks k (t + 1) = mks k t ++ [mkB k t] := by simp [mks, List.range_succ]
theorem bat_mks (k t x : Nat) (h : x < t) : bat (mks k t) x = mkB k x := by simp [mks, bat, h]
theorem Mk.all {m : Nat} {g c n : Nat → Nat} {base : Nat} {w : World} (h : Mk m g c n base w m 0) : Lie m g c n base w (fun j => mks j (n j)) := by
  obtain ⟨C, h1, h2, _⟩ := h
  intro j hj
  have e : C j = mks j (n j) := by
    apply List.ext_getElem (by rw [(h1 j hj).2, mks_length])
    intro x hx1 hx2
    have := h2 j hj x (by rw [← (h1 j hj).2]; exact hx1)
    simpa [bat, mks, hx1] using this
  have := (h1 j hj).1
  rw [e] at this
  exact ⟨this, mks_length _ _⟩
theorem RdB.kpt {S : Nat → Prop} {w w' : World} {b off : Nat} {l : List UInt8} (h : RdB w (some ⟨b, off, none⟩) l) (k : Kpt S w w') (hs : ¬ S b) : RdB w' (some ⟨b, off, none⟩) l := by
  intro hn
  obtain ⟨b', off', e, hc⟩ := h hn
  cases e
  exact ⟨b, off, rfl, fun j u hu => k.cell (hc j u hu) hs⟩
/-- The lists before the k-th are grown, the others not yet. -/
def Gr (m G : Nat) (g c n g' c' : Nat → Nat) (base B : Nat) (w : World) (k : Nat) : Prop :=
  (∀ j, j < m → k ≤ j → OwnB base w (some ⟨g j, 0, none⟩) (c j) (mks j (n j))) ∧
  (∀ j, j < k → RdB w (some ⟨g j, 0, none⟩) (mks j (n j)) ∧ RdB w (some ⟨g' j, 0, none⟩) (mks j (n j + 40)) ∧ (g' j = g j ∨ B ≤ g' j) ∧ g' j < w.heap.size) ∧
  ∃ cs : Array Value, w.heap[G]? = some (.cells cs 61 (0, 0)) ∧ cs.size = m ∧ ∀ j, j < k → cs[j]? = some (.slice (some ⟨g' j, 0, none⟩) (n j + 40) (c' j))
theorem Gr.step {m G : Nat} {g c n g' c' : Nat → Nat} {base B : Nat} {w w2 : World} {k gg cc : Nat} (h : Gr m G g c n g' c' base B w k) (hk : k < m)
    (hne : ∀ j k, j < m → k < m → j ≠ k → g j ≠ g k) (hG : ∀ j, j < m → g j ≠ G) (hGB : G < B) (hB : B ≤ w.heap.size) (hg : ∀ j, j < m → g j < B)
    (K1 : Kpt (fun b => b = g k ∨ w.heap.size ≤ b) w w2) (ho : OwnB base w2 (some ⟨gg, 0, none⟩) cc (mks k (n k + 40))) (hgg : gg = g k ∨ w.heap.size ≤ gg) (hr : RdB w2 (some ⟨g k, 0, none⟩) (mks k (n k))) :
    Gr m G g c n (upd g' k gg) (upd c' k cc) base B (w2.setCell ⟨G, k, none⟩ (.slice (some ⟨gg, 0, none⟩) (n k + 40) cc)) (k + 1) := by
  obtain ⟨ha, hb, cs, h1, h2, h3⟩ := h
  have K2 : Kpt (fun b => b = G) w2 (w2.setCell ⟨G, k, none⟩ (.slice (some ⟨gg, 0, none⟩) (n k + 40) cc)) := ⟨rfl, rfl, rfl, by simp [World.setCell], fun j hj hs => Below.heap_setCell _ _ _ _ hs⟩
  have hgk := hg k hk
  have hGk := hG k hk
  have hggG : gg ≠ G := by rcases hgg with e | e <;> omega
  refine ⟨fun j hj hkj => ?_, fun j hj => ?_, cs.setIfInBounds k (.slice (some ⟨gg, 0, none⟩) (n k + 40) cc), ?_, by simpa using h2, fun j hj => ?_⟩
  · have := hne j k hj hk (by omega)
    have h5 := hg j hj
    exact ((ha j hj (by omega)).kpt K1 (by omega)).kpt K2 (hG j hj)
  · by_cases e : j = k
    · subst e
      simp only [upd, if_pos]
      exact ⟨hr.kpt K2 hGk, ho.rd.kpt K2 hggG, by omega, Nat.lt_of_lt_of_le ho.lt.2 K2.size⟩
    · simp only [upd, if_neg e]
      obtain ⟨r1, r2, r3, r4⟩ := hb j (by omega)
      have := hne j k (by omega) hk e
      have h5 := hg j (by omega)
      have h6 := hG j (by omega)
      exact ⟨(r1.kpt K1 (by omega)).kpt K2 h6, (r2.kpt K1 (by omega)).kpt K2 (by omega), r3, Nat.lt_of_lt_of_le r4 (Nat.le_trans K1.size K2.size)⟩
  · exact heap_setCell_same w2 G k cs _ _ ((K1.block G (by omega) (by omega)).trans h1)
  · by_cases e : j = k
    · subst e
      simp [upd, h2, hk]
    · simp only [upd, if_neg e]
      rw [Array.getElem?_setIfInBounds_ne (by omega)]
      exact h3 j (by omega)
end Go.Proofs.Ytahlhdhljjpeoaa

/- append of so many noughts on bytes (the number stands in the place of a slice). -/
namespace Go.Proofs.Ytahlhdhljjpeoaa
open Go.RowKit
set_option linter.unusedVariables false

theorem zero_cells (m : Nat) : Builtin.zeroCells (Value.int .u8 0).cells m = (B8s (zeros m)).toArray := by
  have h : Builtin.zeroCells (Value.int .u8 0).cells m = madeCells (Value.int .u8 0).cells m := by
    unfold Builtin.zeroCells madeCells
    simp [Value.cells]
  rw [h]
  apply Array.ext'
  exact made_zeros m
theorem run_app_zeros {W : World} (ty : TypeId) (base : Nat) (v : Value) (n : Nat) (l : List UInt8) (HO : W.ownsRow base 5 1 v n (B8s l)) (m : Nat)
    (hbytes : n + m ≤ 100000000000000) (hbase : base ≤ W.heap.size) :
    ∃ v1 w1, (Builtin.append_ #[61, 3] ty #[v, .int .i64 (m : Int)]).run Try.prog W = .ok v1 w1 ∧ w1.ownsRow base 5 1 v1 (n + m) (B8s l ++ B8s (zeros m)) ∧ W.grownBy w1 v.ownBlock ∧ (v1.ownBlock = v.ownBlock ∨ v1.ownBlock = some W.heap.size) := by
  obtain ⟨i0, hi, hz0, hz1, hz2⟩ := info_parts info_u8
  have ht := Try.underlying61
  have hti := Try.underlying3
  have hl : (B8s (zeros m)).length = m * 1 := by simp [B8s, zeros]
  have hw : IntKind.i64.wrap (m : Int) = m := by rw [IntKind.wrap_i64]; omega
  have hw0 : IntKind.i64.wrap 0 = 0 := by rw [IntKind.wrap_i64]; rfl
  have hneg : ¬ ((m : Int) < 0) := by omega
  have hbig : ¬ (281474976710656 < (m : Int) * ((1 : Nat) : Int)) := by omega
  by_cases h0 : m = 0
  · subst h0
    have e0 : B8s (zeros 0) = [] := rfl
    refine ⟨v, W, ?_, by rw [e0]; simpa using HO, World.grownBy.refl W _, .inl rfl⟩
    rcases HO.2 with ⟨rfl, rfl⟩ | ⟨g, cap, cur, rfl, hbg, hg, hnc, hcm, hcs, htake⟩
    · simp [Builtin.append_, run_underlying ht, run_underlying hti, sizeOf, typeInfo, hi, asInt, asIntOf, hw0]
    · simp [Builtin.append_, run_underlying ht, run_underlying hti, sizeOf, typeInfo, hi, asInt, asIntOf, hw0, hnc, storeCells]
  · rcases HO.2 with ⟨rfl, rfl⟩ | ⟨g, cap, cur, rfl, hbg, hg, hnc, hcm, hcs, htake⟩
    · have hx : B8s l = [] := List.eq_nil_of_length_eq_zero (by simpa using HO.1)
      rw [hx]
      have hr := Lib.run_append_nil_zeros (P := Try.prog) W 61 3 ty 5 i0 (.int .u8 0) .i64 .i64 ht hti hi hz0 m (by omega) (by omega) (by omega) (by rw [hz2]; omega)
      rw [zero_cells] at hr
      refine ⟨_, _, hr, ?_, grown_new W _ _, .inr rfl⟩
      have := own_grown (W := W) (base := base) (e := 5) (size := 1) (z := .int .u8 0) (n := m) hl rfl (grownCap_ge W m 0 5) (grownCap_le_maxLen W m 0 5 (by simp only [maxLen]; omega)) hbase
      simpa using this
    · by_cases hroom : n + m ≤ cap
      · have hst := run_storeCells_at Try.prog g (n * i0.size) 5 (B8s (zeros m)) 0 cur W hg (by rw [hl, hz1]; omega) (B8s_one _)
        simp only [Nat.add_zero] at hst
        have ho := own_room (m := m) hg hbg hcm hcs htake hl hroom
        refine ⟨.slice (some ⟨g, 0, none⟩) (n + m) cap, _, ?_, ho.1, ho.2, .inl rfl⟩
        have hmz : ¬ (m * i0.size = 0) := by rw [hz1]; omega
        have hbig' : ¬ (281474976710656 < (m : Int) * (i0.bytes : Int)) := by rw [hz2]; exact hbig
        rw [hz1] at hst
        simp only [Nat.mul_one] at hst
        simp [Builtin.append_, run_underlying ht, run_underlying hti, sizeOf, typeInfo, zeroValue, hi, hz0, hz1, asInt, asIntOf, hw, hneg, hbig', hroom, h0, zero_cells, Addr.add_lit, hst]
      · have holds : ∀ j u, (B8s l)[j]? = some u → W.cell? ((⟨g, 0, none⟩ : Addr).add j) = some u := HO.cells (g := g) rfl
        have hlen : (B8s l).length = n * i0.size := by rw [hz1]; exact HO.1
        have hr := Lib.run_append_grow_zeros (P := Try.prog) W 61 3 ty 5 i0 (.int .u8 0) .i64 .i64 ht hti hi hz0 (some ⟨g, 0, none⟩) n cap (B8s l) (run_firstCells_some (P := Try.prog) W.drew i0.size n _ n cap (B8s l) hlen (by simpa using holds))
          m (by omega) (by omega) (by omega) (by omega) (by rw [hz2]; omega) (growslice_fits_wide (by omega) (by rw [hz2]; omega))
        rw [zero_cells] at hr
        refine ⟨_, _, hr, ?_, grown_new W _ _, .inr rfl⟩
        have := own_grown (W := W) (base := base) (e := 5) (size := 1) (z := .int .u8 0) (n := n + m) (xs := B8s l ++ B8s (zeros m)) (by rw [List.length_append, HO.1, hl, Nat.add_mul]) rfl (grownCap_ge W (n + m) cap 5) (grownCap_le_maxLen W (n + m) cap 5 (by simp only [maxLen]; omega)) hbase
        simpa using this
/-- append of noughts on bytes. -/
theorem app_zeros {ops : Array Oper} {rest : List Oper} {o : Oper} {a : Act} {Q : Exit → Act → World → Prop} {W : World} (hgd : o.guard = none) (s x : Operand)
    (ho : o.op = .call { callee := .builtin .append, args := #[s, x], argTypes := #[61, 3] })
    (base : Nat) (A0 : Option Addr) (c0 n0 : Nat) (l : List UInt8) (hn0 : n0 = l.length) (hs : a.eval s = .slice A0 n0 c0) (HO : OwnB base W A0 c0 l)
    (m : Nat) (y : Int) (hy : y = (m : Int)) (hx : a.eval x = .int .i64 y)
    (n1 : Nat) (hn1 : n1 = l.length + m) (hbytes : l.length + m ≤ 100000000000000) (w0 : World) (hB : Below base w0 W) (hbase : base ≤ W.heap.size)
    (h : ∀ A1 c1 w1, OwnB base w1 A1 c1 (l ++ zeros m) → Below base w0 w1 → wpList Try.prog ops Q rest (a.put o.dst (.slice A1 n1 c1)) w1) :
    wpList Try.prog ops Q (o :: rest) a W := by
  subst hn0 hn1 hy
  obtain ⟨v1, w1, hr, h1, h2, _⟩ := run_app_zeros (W := W) o.type base _ l.length l HO m hbytes hbase
  obtain ⟨A1, c1, rfl, _⟩ := own_slice h1
  refine wpList_plain hgd fun K hK => ?_
  unfold Oper.wp execOp
  simp only [ho, resolve, invoke, builtin, Sem.run_bind, Sem.run_pure, Result.andThen_ok, List.map_toArray, List.map_cons, List.map_nil, hs, hx, hr]
  refine hK _ _ (h A1 c1 w1 ?_ (hB.grown h2 hbase (own_base HO)))
  unfold OwnB
  rw [List.length_append, B8s_append, zeros_length]
  exact h1
end Go.Proofs.Ytahlhdhljjpeoaa

/- Blocks of bytes in memory (the general part of XDk, for seats without a disk). -/
namespace Go.Proofs.Ytahlhdhljjpeoaa
open Go.RowKit
variable {Q : Nat → Prop}
set_option maxHeartbeats 3200000
set_option linter.unusedVariables false
set_option linter.unusedSimpArgs false

/-- A block of bytes. -/
def U8 (w : World) (b : Nat) : Prop := ∃ cs : Array Value, w.heap[b]? = some (.cells cs 5 (0, 0))
/-- A slice of these bytes, in a block of bytes. -/
def Dat (Q : Nat → Prop) (w : World) (v : Value) (l : List UInt8) : Prop :=
  ∃ (b off c : Nat) (cs : Array Value), v = .slice (some ⟨b, off, none⟩) l.length c ∧ w.heap[b]? = some (.cells cs 5 (0, 0)) ∧ (∀ j u, (B8s l)[j]? = some u → cs[off + j]? = some u) ∧ l.length ≤ c ∧ c ≤ 9223372036854775807 ∧ Q b
theorem Dat.rd {w : World} {v : Value} {l : List UInt8} (h : Dat Q w v l) : ∃ b off c, v = .slice (some ⟨b, off, none⟩) l.length c ∧ RdB w (some ⟨b, off, none⟩) l ∧ U8 w b := by
  obtain ⟨b, off, c, cs, rfl, hh, hc, _⟩ := h
  refine ⟨b, off, c, rfl, fun hn => ⟨b, off, rfl, fun j u hu => ?_⟩, cs, hh⟩
  rw [cell_of_row _ _ _ _ _ _ hh]
  exact hc j u hu
theorem Dat.kpt {S : Nat → Prop} {w w' : World} {v : Value} {l : List UInt8} (h : Dat Q w v l) (k : Kpt S w w') (hs : ∀ b, S b → ¬ U8 w b) : Dat Q w' v l := by
  obtain ⟨b, off, c, cs, rfl, hh, hc⟩ := h
  exact ⟨b, off, c, cs, rfl, (k.block b (heap_in hh) (fun x => hs b x ⟨cs, hh⟩)).trans hh, hc⟩
theorem Dat.below {w w' : World} {v : Value} {l : List UInt8} (h : Dat Q w v l) (k : Below w.heap.size w w') : Dat Q w' v l := h.kpt (S := fun _ => False) (.of_below k) (fun _ h => h.elim)
theorem Dat.cap {w : World} {A : Option Addr} {n c : Nat} {l : List UInt8} (h : Dat Q w (.slice A n c) l) : l.length ≤ c ∧ c ≤ 9223372036854775807 := by
  obtain ⟨b, off, c', cs, e, hh, hc, h1, h2, _⟩ := h
  simp only [Value.slice.injEq] at e
  obtain ⟨_, _, rfl⟩ := e
  exact ⟨h1, h2⟩
theorem U8.kpt {S : Nat → Prop} {w w' : World} {b : Nat} (h : U8 w b) (k : Kpt S w w') (hs : ∀ b, S b → ¬ U8 w b) : U8 w' b := by
  obtain ⟨cs, hh⟩ := h
  exact ⟨cs, (k.block b (heap_in hh) (fun x => hs b x ⟨cs, hh⟩)).trans hh⟩
/-- A row of bytes of the call's own is such a slice. -/
theorem Dat.own {base g c : Nat} {w : World} {l : List UInt8} (h : OwnB base w (some ⟨g, 0, none⟩) c l) (hq : Q g) : Dat Q w (.slice (some ⟨g, 0, none⟩) l.length c) l := by
  rcases h.2 with ⟨hv, _⟩ | ⟨g', cap, cur, hv, hb, hg, hn, hm, hs, ht⟩
  · simp at hv
  · simp only [Value.slice.injEq, Option.some.injEq, Addr.mk.injEq, and_true, true_and] at hv
    obtain ⟨rfl, rfl⟩ := hv
    refine ⟨g, 0, c, cur, rfl, hg, fun j u hu => ?_, h.cap.1, h.cap.2, hq⟩
    rw [Nat.zero_add]
    have hj : j < (B8s l).length := (List.getElem?_eq_some_iff.1 hu).1
    rw [← ht, List.getElem?_take] at hu
    split at hu
    · simpa using hu
    · cases hu
theorem OwnB.u8 {base g c : Nat} {w : World} {l : List UInt8} (h : OwnB base w (some ⟨g, 0, none⟩) c l) : U8 w g := by
  obtain ⟨b, off, c', h1, h2, h3⟩ := (Dat.own (Q := fun _ => True) h trivial).rd
  simp only [Value.slice.injEq, Option.some.injEq, Addr.mk.injEq, and_true, true_and] at h1
  obtain ⟨⟨rfl, rfl⟩, rfl⟩ := h1
  exact h3
theorem own_adr {base c : Nat} {w : World} {a : Option Addr} {l : List UInt8} (h : OwnB base w a c l) (hn : l ≠ []) : ∃ g, a = some ⟨g, 0, none⟩ ∧ base ≤ g ∧ g < w.heap.size := by
  obtain ⟨g, rfl, hb, _⟩ := h.at_ hn
  exact ⟨g, rfl, hb, h.lt.2⟩
theorem OwnB.kpt' {S : Nat → Prop} {base g c : Nat} {w w' : World} {l : List UInt8} (h : OwnB base w (some ⟨g, 0, none⟩) c l) (k : Kpt S w w') (hs : ∀ b, S b → ¬ U8 w b) : OwnB base w' (some ⟨g, 0, none⟩) c l :=
  h.kpt k (fun x => hs g x h.u8)
/-- Lists of such slices. -/
def Dats (Q : Nat → Prop) (w : World) (vs : List Value) (ls : List (List UInt8)) : Prop := vs.length = ls.length ∧ ∀ (i : Nat) (v : Value) (l : List UInt8), vs[i]? = some v → ls[i]? = some l → Dat Q w v l
theorem Dats.kpt {S : Nat → Prop} {w w' : World} {vs : List Value} {ls : List (List UInt8)} (h : Dats Q w vs ls) (k : Kpt S w w') (hs : ∀ b, S b → ¬ U8 w b) : Dats Q w' vs ls :=
  ⟨h.1, fun i v l h1 h2 => (h.2 i v l h1 h2).kpt k hs⟩
theorem Dats.below {w w' : World} {vs : List Value} {ls : List (List UInt8)} (h : Dats Q w vs ls) (k : Below w.heap.size w w') : Dats Q w' vs ls := ⟨h.1, fun i v l h1 h2 => (h.2 i v l h1 h2).below k⟩
theorem Dats.nil (w : World) : Dats Q w [] [] := ⟨rfl, fun i v l h => by simp at h⟩
theorem Dats.at_ {w : World} {vs : List Value} {ls : List (List UInt8)} (h : Dats Q w vs ls) {i : Nat} (hi : i < ls.length) : ∃ v, vs[i]? = some v ∧ Dat Q w v ls[i] := by
  have h1 : i < vs.length := by rw [h.1]; exact hi
  exact ⟨vs[i], List.getElem?_eq_getElem h1, h.2 i _ _ (List.getElem?_eq_getElem h1) (List.getElem?_eq_getElem hi)⟩
theorem Dats.snoc {w : World} {vs : List Value} {ls : List (List UInt8)} (h : Dats Q w vs ls) {v : Value} {l : List UInt8} (hd : Dat Q w v l) : Dats Q w (vs ++ [v]) (ls ++ [l]) := by
  refine ⟨by simp [h.1], fun i u m h1 h2 => ?_⟩
  have e := h.1
  by_cases hi : i < vs.length
  · rw [List.getElem?_append_left hi] at h1
    rw [List.getElem?_append_left (by omega)] at h2
    exact h.2 i u m h1 h2
  · rw [List.getElem?_append_right (by omega)] at h1
    rw [List.getElem?_append_right (by omega)] at h2
    rw [e] at h1
    generalize i - ls.length = k at *
    cases k with
    | zero => simp at h1 h2; subst h1 h2; exact hd
    | succ k => simp at h1
theorem Dats.set {w : World} {vs : List Value} {ls : List (List UInt8)} (h : Dats Q w vs ls) (k : Nat) {v : Value} {l : List UInt8} (hd : Dat Q w v l) : Dats Q w (vs.set k v) (ls.set k l) := by
  refine ⟨by simp [h.1], fun i u m h1 h2 => ?_⟩
  have e := h.1
  rw [List.getElem?_set] at h1 h2
  by_cases hk : k = i
  · subst hk
    rw [if_pos rfl] at h1 h2
    split at h1 <;> simp_all
  · rw [if_neg hk] at h1 h2
    exact h.2 i u m h1 h2

theorem row_not_u8 {w : World} {g : Nat} {cs : Array Value} {t : TypeId} {f : Nat × Nat} (h : w.heap[g]? = some (.cells cs t f)) (ht : t ≠ 5) : ¬ U8 w g := by
  rintro ⟨cs', h'⟩
  rw [h] at h'
  simp only [Option.some.injEq, Obj.cells.injEq] at h'
  exact ht h'.2.1
theorem own_row {w : World} {base n size : Nat} {e : TypeId} {v : Value} {xs : List Value} (h : w.ownsRow base e size v n xs) {b : Nat} (hb : v.ownBlock = some b) : base ≤ b ∧ b < w.heap.size ∧ ∃ cs, w.heap[b]? = some (.cells cs e (0, 0)) := by
  rcases h.2 with ⟨rfl, _⟩ | ⟨g', cap, cur, rfl, hb', hg, r⟩
  · simp [Value.ownBlock] at hb
  · simp only [Value.ownBlock, Option.map_some, Option.some.injEq] at hb
    subst hb
    exact ⟨hb', heap_in hg, cur, hg⟩
theorem own_kpt {S : Nat → Prop} {w w' : World} {base n size : Nat} {e : TypeId} {v : Value} {xs : List Value} (h : w.ownsRow base e size v n xs) (k : Kpt S w w') (hs : ∀ b, v.ownBlock = some b → ¬ S b) : w'.ownsRow base e size v n xs := by
  refine ⟨h.1, ?_⟩
  rcases h.2 with h0 | ⟨g', cap, cur, rfl, hb, hg, r⟩
  · exact .inl h0
  · exact .inr ⟨g', cap, cur, rfl, hb, (k.block g' (heap_in hg) (hs g' rfl)).trans hg, r⟩
theorem Kpt.setCell {S : Nat → Prop} {v w : World} (h : Kpt S v w) {p : Addr} (hp : S p.block) (u : Value) : Kpt S v (w.setCell p u) :=
  ⟨h.os, h.tape, h.output, by simpa [World.setCell] using h.size, fun j hj hs => (heap_setCell_other w p j u (fun e => hs (e ▸ hp))).trans (h.block j hj hs)⟩
theorem Kpt.below {S : Nat → Prop} {v w w' : World} (h : Kpt S v w) (b : Below w.heap.size w w') : Kpt S v w' := h.trans (.of_below b)
theorem Kpt.grown {S : Nat → Prop} {v w w' : World} {row : Option Nat} (h : Kpt S v w) (g : w.grownBy w' row) (hr : ∀ b, row = some b → S b) : Kpt S v w' := h.trans (.of_grown g hr)
/-- What may hold a disk's bytes. -/
def Qp (Q : Nat → Prop) (w : World) (b : Nat) : Prop := Q b ∨ w.heap.size ≤ b
theorem Dat.monoQ {Q' : Nat → Prop} {w : World} {v : Value} {l : List UInt8} (h : Dat Q w v l) (hq : ∀ b, Q b → Q' b) : Dat Q' w v l := by
  obtain ⟨b, off, c, cs, e, h1, h2, h3, h4, h5⟩ := h
  exact ⟨b, off, c, cs, e, h1, h2, h3, h4, hq b h5⟩
theorem Dats.monoQ {Q' : Nat → Prop} {w : World} {vs : List Value} {ls : List (List UInt8)} (h : Dats Q w vs ls) (hq : ∀ b, Q b → Q' b) : Dats Q' w vs ls := ⟨h.1, fun i v l h1 h2 => (h.2 i v l h1 h2).monoQ hq⟩
/-- Stores into blocks that hold none of a disk's bytes, and are none of its own. -/
theorem Dat.kptQ {T : Nat → Prop} {w w' : World} {v : Value} {l : List UInt8} (h : Dat Q w v l) (k : Kpt T w w') (hT : ∀ b, Q b → ¬ T b) : Dat Q w' v l := by
  obtain ⟨b, off, c, cs, e, h1, h2, h3, h4, h5⟩ := h
  exact ⟨b, off, c, cs, e, (k.block b (heap_in h1) (hT b h5)).trans h1, h2, h3, h4, h5⟩
theorem Dats.kptQ {T : Nat → Prop} {w w' : World} {vs : List Value} {ls : List (List UInt8)} (h : Dats Q w vs ls) (k : Kpt T w w') (hT : ∀ b, Q b → ¬ T b) : Dats Q w' vs ls := ⟨h.1, fun i v l h1 h2 => (h.2 i v l h1 h2).kptQ k hT⟩
theorem frow {w : World} {g : Nat} {cs : Array Value} {t : TypeId} (h : w.heap[g]? = some (.cells cs t (0, 0))) (j : Nat) : w.frozen? ⟨g, j, none⟩ = false := frozen_of_row w g j cs t h
end Go.Proofs.Ytahlhdhljjpeoaa

/- A plain space in memory: what is said of it, and what keeps it. -/
namespace Go.Proofs.Ytahlhdhljjpeoaa
open Go.RowKit
variable {Q : Nat → Prop}
set_option maxHeartbeats 3200000
set_option linter.unusedVariables false
set_option linter.unusedSimpArgs false

/-- A space: its blocks, is there an end, how many answers are left, how many writes were made. -/
structure Pl where
  b : List (List UInt8)
  ends : Bool
  left : Int
  did : Nat
structure Pl.ok (d : Pl) : Prop where
  pos : 0 < d.b.length
  max : d.b.length ≤ 512
  b4 : ∀ l ∈ d.b, l.length = 4096
  lo : -1000000000 ≤ d.left
  hi : d.left ≤ 1000000000
def plC (vb vd : Value) (d : Pl) : Array Value := #[vb, .bool d.ends, .int .i64 d.left, vd]
def footP (P : Nat) (vb vd : Value) (b : Nat) : Prop := b = P ∨ vb.ownBlock = some b ∨ vd.ownBlock = some b
structure PrtP (Q : Nat → Prop) (base : Nat) (w : World) (d : Pl) (vb vd : Value) : Prop where
  b : ∃ xs gb cb, vb = .slice (some ⟨gb, 0, none⟩) d.b.length cb ∧ w.ownsRow base 61 1 vb d.b.length xs ∧ Dats Q w xs d.b
  d : ∃ xd A c, vd = .slice A d.did c ∧ w.ownsRow base 3 1 vd d.did xd
/-- At P lies this space; its blocks are S. -/
def IsPl (Q : Nat → Prop) (base : Nat) (w : World) (P : Nat) (S : Nat → Prop) (d : Pl) : Prop :=
  ∃ vb vd, S = footP P vb vd ∧ base ≤ P ∧ w.heap[P]? = some (.cells (plC vb vd d) 50 (0, 0)) ∧ PrtP Q base w d vb vd ∧ d.ok
theorem IsPl.blocks {base : Nat} {w : World} {P : Nat} {S : Nat → Prop} {d : Pl} (h : IsPl Q base w P S d) {b : Nat} (hb : S b) : base ≤ b ∧ b < w.heap.size ∧ ¬ U8 w b := by
  obtain ⟨vb, vd, rfl, hP, hr, hp, ho⟩ := h
  rcases hb with rfl | hb | hb
  · exact ⟨hP, heap_in hr, row_not_u8 hr (by decide)⟩
  · obtain ⟨xs, gs, cs, _, h1, _⟩ := hp.b
    obtain ⟨h2, h3, cs, h4⟩ := own_row h1 hb
    exact ⟨h2, h3, row_not_u8 h4 (by decide)⟩
  · obtain ⟨xs, A, c, _, h1⟩ := hp.d
    obtain ⟨h2, h3, cs, h4⟩ := own_row h1 hb
    exact ⟨h2, h3, row_not_u8 h4 (by decide)⟩
theorem IsPl.nou {base : Nat} {w : World} {P : Nat} {S : Nat → Prop} {d : Pl} (h : IsPl Q base w P S d) : ∀ b, S b → ¬ U8 w b := fun b hb => (h.blocks hb).2.2
theorem IsPl.ok {base : Nat} {w : World} {P : Nat} {S : Nat → Prop} {d : Pl} (h : IsPl Q base w P S d) : d.ok := by
  obtain ⟨vb, vd, rfl, hP, hr, hp, ho⟩ := h
  exact ho
theorem PrtP.kpt {T : Nat → Prop} {base : Nat} {w w' : World} {d : Pl} {vb vd : Value} (h : PrtP Q base w d vb vd) (k : Kpt T w w') (hT : ∀ b, T b → ¬ U8 w b)
    (h1 : ∀ b, vb.ownBlock = some b → ¬ T b) (h2 : ∀ b, vd.ownBlock = some b → ¬ T b) : PrtP Q base w' d vb vd := by
  obtain ⟨⟨xs, gs, cs, a1, a2, a3⟩, ⟨xd, A, c, b1, b2⟩⟩ := h
  exact ⟨⟨xs, gs, cs, a1, own_kpt a2 k h1, a3.kpt k hT⟩, ⟨xd, A, c, b1, own_kpt b2 k h2⟩⟩
theorem IsPl.kpt {T : Nat → Prop} {base : Nat} {w w' : World} {P : Nat} {S : Nat → Prop} {d : Pl} (h : IsPl Q base w P S d) (k : Kpt T w w') (hT : ∀ b, T b → ¬ U8 w b) (hST : ∀ b, S b → ¬ T b) : IsPl Q base w' P S d := by
  obtain ⟨vb, vd, rfl, hP, hr, hp, ho⟩ := h
  exact ⟨vb, vd, rfl, hP, (k.block P (heap_in hr) (hST P (.inl rfl))).trans hr, hp.kpt k hT (fun b hb => hST b (.inr (.inl hb))) (fun b hb => hST b (.inr (.inr hb))), ho⟩
theorem IsPl.below {base : Nat} {w w' : World} {P : Nat} {S : Nat → Prop} {d : Pl} (h : IsPl Q base w P S d) (k : Below w.heap.size w w') : IsPl Q base w' P S d := h.kpt (T := fun _ => False) (.of_below k) (fun _ h => h.elim) (fun _ _ h => h)
theorem IsPl.lt {base : Nat} {w : World} {P : Nat} {S : Nat → Prop} {d : Pl} (h : IsPl Q base w P S d) : P < w.heap.size := by
  obtain ⟨vb, vd, rfl, hP, hr, hp, ho⟩ := h
  exact heap_in hr
/-- The state behind one answer. -/
def Pl.tick (d : Pl) : Pl := if d.ends = true then { d with left := d.left - 1 } else d
/-- Is it spent, then? -/
def Pl.spent (d : Pl) : Bool := d.ends && decide (d.left - 1 < 0)
def Pl.put (d : Pl) (n : Nat) (l : List UInt8) : Pl := { d with b := d.b.set n l, did := d.did + 1 }
theorem four {w : World} {g : Nat} {t : TypeId} {x0 x1 x2 x3 : Value} (h : w.heap[g]? = some (.cells #[x0, x1, x2, x3] t (0, 0))) :
    w.cell? ⟨g, 0, none⟩ = some x0 ∧ w.cell? ⟨g, 1, none⟩ = some x1 ∧ w.cell? ⟨g, 2, none⟩ = some x2 ∧ w.cell? ⟨g, 3, none⟩ = some x3 := by
  refine ⟨?_, ?_, ?_, ?_⟩ <;> (rw [cell_of_row _ _ _ _ _ _ h]; rfl)
/-- What an operation does: the space then, and what lies in no block of its. -/
def TurnP (Q : Nat → Prop) (base : Nat) (w : World) (P : Nat) (S : Nat → Prop) (w' : World) (d' : Pl) : Prop := ∃ S', IsPl Q base w' P S' d' ∧ Kpt S w w' ∧ ∀ b, S' b → S b ∨ w.heap.size ≤ b
theorem IsPl.still {base : Nat} {w w' : World} {P : Nat} {S : Nat → Prop} {d : Pl} (h : IsPl Q base w P S d) (k : Below w.heap.size w w') : TurnP Q base w P S w' d :=
  ⟨S, h.below k, .of_below k, fun b hb => .inl hb⟩
theorem Kpt.upP {S T : Nat → Prop} {w A A' : World} (h : Kpt S w A) (k : Kpt T A A') (ht : ∀ b, T b → S b ∨ w.heap.size ≤ b) : Kpt S w A' :=
  ⟨k.os.trans h.os, k.tape.trans h.tape, k.output.trans h.output, Nat.le_trans h.size k.size, fun j hj hs => (k.block j (Nat.lt_of_lt_of_le hj h.size) (fun e => (ht j e).elim hs (fun h => by omega))).trans (h.block j hj hs)⟩
theorem TurnP.trans {base : Nat} {w w1 w2 : World} {P : Nat} {S S1 : Nat → Prop} {d2 : Pl} (h1 : Kpt S w w1) (h2 : ∀ b, S1 b → S b ∨ w.heap.size ≤ b) (h : TurnP Q base w1 P S1 w2 d2) : TurnP Q base w P S w2 d2 := by
  obtain ⟨S2, a1, a2, a3⟩ := h
  refine ⟨S2, a1, h1.upP a2 h2, fun b hb => ?_⟩
  rcases a3 b hb with h | h
  · exact h2 b h
  · exact .inr (Nat.le_trans h1.size h)
theorem own_noT {w : World} {base n size : Nat} {e : TypeId} {v : Value} {xs : List Value} (h : w.ownsRow base e size v n xs) {P : Nat} {cs : Array Value} {t : TypeId} (hr : w.heap[P]? = some (.cells cs t (0, 0))) (ht : e ≠ t) : ∀ b, v.ownBlock = some b → b ≠ P := by
  rintro b hb rfl
  obtain ⟨_, _, cs', h4⟩ := own_row h hb
  rw [hr] at h4
  simp only [Option.some.injEq, Obj.cells.injEq] at h4
  exact ht h4.2.1.symm
theorem IsPl.inS {base : Nat} {w : World} {P : Nat} {S : Nat → Prop} {d : Pl} (h : IsPl Q base w P S d) : S P := by
  obtain ⟨vb, vd, rfl, _⟩ := h
  exact .inl rfl
/-- The count is stored. -/
theorem IsPl.setLeft {base : Nat} {w : World} {P : Nat} {S : Nat → Prop} {d : Pl} (h : IsPl Q base w P S d) (x : Int) (hx : -1000000000 ≤ x ∧ x ≤ 1000000000) :
    IsPl Q base (w.setCell ⟨P, 2, none⟩ (.int .i64 x)) P S { d with left := x } ∧ Kpt (fun b => b = P) w (w.setCell ⟨P, 2, none⟩ (.int .i64 x)) := by
  have k : Kpt (fun b => b = P) w (w.setCell ⟨P, 2, none⟩ (.int .i64 x)) := Kpt.setCell (Kpt.refl (fun b => b = P) w) rfl _
  have hnu : ∀ b, b = P → ¬ U8 w b := by rintro b rfl; exact h.nou _ h.inS
  obtain ⟨vb, vd, rfl, hP, hr, hp, ho⟩ := h
  obtain ⟨⟨xs, gs, cs, a1, a2, a3⟩, ⟨xd, A, c, b1, b2⟩⟩ := hp
  refine ⟨⟨vb, vd, rfl, hP, heap_setCell_same _ _ 2 _ _ _ hr, ⟨⟨xs, gs, cs, a1, own_kpt a2 k (own_noT a2 hr (by decide)), a3.kpt k hnu⟩, ⟨xd, A, c, b1, own_kpt b2 k (own_noT b2 hr (by decide))⟩⟩, ⟨ho.pos, ho.max, ho.b4, hx.1, hx.2⟩⟩, k⟩
/-- A block is stored. -/
theorem IsPl.setB {base : Nat} {w : World} {P : Nat} {d : Pl} {gb cb : Nat} {vd : Value} (h : IsPl Q base w P (footP P (.slice (some ⟨gb, 0, none⟩) d.b.length cb) vd) d)
    (hr : w.heap[P]? = some (.cells (plC (.slice (some ⟨gb, 0, none⟩) d.b.length cb) vd d) 50 (0, 0))) (n : Nat) (hn : n < d.b.length) {u : Value} {l : List UInt8} (hu : Dat Q w u l) (hl : l.length = 4096) :
    IsPl Q base (w.setCell ⟨gb, n, none⟩ u) P (footP P (.slice (some ⟨gb, 0, none⟩) d.b.length cb) vd) { d with b := d.b.set n l } ∧ Kpt (fun b => b = gb) w (w.setCell ⟨gb, n, none⟩ u) ∧ (w.setCell ⟨gb, n, none⟩ u).heap[P]? = some (.cells (plC (.slice (some ⟨gb, 0, none⟩) d.b.length cb) vd d) 50 (0, 0)) := by
  have k : Kpt (fun b => b = gb) w (w.setCell ⟨gb, n, none⟩ u) := Kpt.setCell (Kpt.refl (fun b => b = gb) w) rfl _
  have hnu : ∀ b, b = gb → ¬ U8 w b := by rintro b rfl; exact h.nou _ (.inr (.inl rfl))
  obtain ⟨vb', vd', hS, hP, hr', hp, ho⟩ := h
  rw [hr] at hr'
  simp only [Option.some.injEq, Obj.cells.injEq, plC, Array.mk.injEq, List.cons.injEq, and_true, true_and] at hr'
  obtain ⟨rfl, rfl⟩ := hr'
  obtain ⟨⟨xs, gs, cs, a1, a2, a3⟩, ⟨xd, A, c, b1, b2⟩⟩ := hp
  simp only [Value.slice.injEq, Option.some.injEq, Addr.mk.injEq, and_true, true_and] at a1
  obtain ⟨rfl, rfl⟩ := a1
  have hgP : gb ≠ P := own_noT a2 hr (by decide) gb rfl
  have hst := (World.ownsRow.stored a2 n u).1
  have hr2 := (k.block P (heap_in hr) (fun e => hgP e.symm)).trans hr
  refine ⟨⟨_, vd, rfl, hP, ?_, ⟨⟨xs.set n u, gb, cb, by simp, by simpa using hst, (a3.kpt k hnu).set n (hu.kpt k hnu)⟩, ⟨xd, A, c, b1, own_kpt b2 k (fun b hb e => ?_)⟩⟩, ⟨by simpa using ho.pos, by simpa using ho.max, fun x hx => ?_, ho.lo, ho.hi⟩⟩, k, hr2⟩
  · simpa [plC] using hr2
  · obtain ⟨_, _, cs1, h4⟩ := own_row b2 hb
    obtain ⟨_, _, cs2, h5⟩ := own_row a2 (b := gb) rfl
    rw [e, h5] at h4
    simp only [Option.some.injEq, Obj.cells.injEq] at h4
    exact absurd h4.2.1 (by decide)
  · rcases List.mem_or_eq_of_mem_set hx with hx | rfl
    · exact ho.b4 x hx
    · exact hl
/-- The list of what was written grows. -/
theorem IsPl.setD {base : Nat} {w w3 : World} {P : Nat} {d : Pl} {vb vd : Value} (h : IsPl Q base w P (footP P vb vd) d)
    (hr : w.heap[P]? = some (.cells (plC vb vd d) 50 (0, 0))) {A1 : Option Addr} {c1 : Nat} {xs : List Value} (hown : w3.ownsRow base 3 1 (.slice A1 (d.did + 1) c1) (d.did + 1) xs) (hg : Kpt (fun b => vd.ownBlock = some b) w w3)
    (hat : ∀ b, (Value.slice A1 (d.did + 1) c1).ownBlock = some b → vd.ownBlock = some b ∨ w.heap.size ≤ b) :
    TurnP Q base w P (footP P vb vd) (w3.setCell ⟨P, 3, none⟩ (.slice A1 (d.did + 1) c1)) { d with did := d.did + 1 } := by
  obtain ⟨vb', vd', hS, hP, hr', hp, ho⟩ := h
  rw [hr] at hr'
  simp only [Option.some.injEq, Obj.cells.injEq, plC, Array.mk.injEq, List.cons.injEq, and_true, true_and] at hr'
  obtain ⟨rfl, rfl⟩ := hr'
  obtain ⟨⟨xb, gs, cs, a1, a2, a3⟩, ⟨xd, A, c, b1, b2⟩⟩ := hp
  have hPd : ∀ b, vd.ownBlock = some b → b ≠ P := own_noT b2 hr (by decide)
  have hr3 : w3.heap[P]? = some (.cells (plC vb vd d) 50 (0, 0)) := (hg.block P (heap_in hr) (fun e => hPd P e rfl)).trans hr
  have hnd : ∀ b, vd.ownBlock = some b → ¬ U8 w b := fun b hb => by
    obtain ⟨_, _, cs1, h4⟩ := own_row b2 hb
    exact row_not_u8 h4 (by decide)
  have a23 := own_kpt a2 hg (fun b hb e => by
    obtain ⟨_, _, cs1, h4⟩ := own_row b2 e
    obtain ⟨_, _, cs2, h5⟩ := own_row a2 hb
    rw [h5] at h4
    simp only [Option.some.injEq, Obj.cells.injEq] at h4
    exact absurd h4.2.1 (by decide))
  have a33 := a3.kpt hg hnd
  have k : Kpt (fun b => b = P) w3 (w3.setCell ⟨P, 3, none⟩ (.slice A1 (d.did + 1) c1)) := Kpt.setCell (Kpt.refl (fun b => b = P) w3) rfl _
  refine ⟨footP P vb (.slice A1 (d.did + 1) c1), ⟨vb, _, rfl, hP, heap_setCell_same _ _ 3 _ _ _ hr3, ⟨⟨xb, gs, cs, a1, own_kpt a23 k (own_noT a23 hr3 (by decide)), a33.kpt k (by rintro b rfl; exact row_not_u8 hr3 (by decide))⟩, ⟨xs, A1, c1, rfl, own_kpt hown k (own_noT hown hr3 (by decide))⟩⟩, ⟨ho.pos, ho.max, ho.b4, ho.lo, ho.hi⟩⟩, ?_, ?_⟩
  · exact (hg.mono fun b hb => .inr (.inr hb)).trans (k.mono fun b hb => .inl hb)
  · rintro b (hb | hb | hb)
    · exact .inl (.inl hb)
    · exact .inl (.inr (.inl hb))
    · exact (hat b hb).imp (fun h => .inr (.inr h)) id
end Go.Proofs.Ytahlhdhljjpeoaa

/- Plain: spent, Read. -/
namespace Go.Proofs.Ytahlhdhljjpeoaa
open Go.RowKit
variable {Q : Nat → Prop}
set_option maxHeartbeats 1500000
set_option maxRecDepth 100000
set_option linter.unusedVariables false
set_option linter.unusedSimpArgs false

theorem IsPl.open4 {base : Nat} {w : World} {P : Nat} {S : Nat → Prop} {d : Pl} (h : IsPl Q base w P S d) : ∃ gb cb vd, S = footP P (.slice (some ⟨gb, 0, none⟩) d.b.length cb) vd ∧ w.heap[P]? = some (.cells #[.slice (some ⟨gb, 0, none⟩) d.b.length cb, .bool d.ends, .int .i64 d.left, vd] 50 (0, 0)) := by
  obtain ⟨vb, vd, rfl, hP, hr, hp, ho⟩ := h
  obtain ⟨xs, gb, cb, rfl, _, _⟩ := hp.b
  exact ⟨gb, cb, vd, rfl, hr⟩
theorem Pl.ok.tick {d : Pl} (h : d.ok) (hl : -100000000 ≤ d.left) : d.tick.ok := by
  unfold Pl.tick
  split
  · exact ⟨h.pos, h.max, h.b4, by show -1000000000 ≤ d.left - 1; omega, by show d.left - 1 ≤ 1000000000; have := h.hi; omega⟩
  · exact h
theorem spent_is {base : Nat} (w : World) (P : Nat) {S : Nat → Prop} {d : Pl} (h : IsPl Q base w P S d) (hl : -100000000 ≤ d.left) :
    Calls Try.prog 89 #[.pointer (some ⟨P, 0, none⟩)] w fun e w' => e = .returned (.bool d.spent) ∧ IsPl Q base w' P S d.tick ∧ Kpt (fun b => b = P) w w' := by
  obtain ⟨gb, cb, vd, hS, hr⟩ := h.open4
  obtain ⟨q0, q1, q2, q3⟩ := four hr
  have ho := h.ok
  by_cases he : d.ends = true
  · have hs := h.setLeft (d.left - 1) ⟨by omega, by have := ho.hi; omega⟩
    have hr2 : (w.setCell ⟨P, 2, none⟩ (.int .i64 (d.left - 1))).heap[P]? = some (.cells #[.slice (some ⟨gb, 0, none⟩) d.b.length cb, .bool d.ends, .int .i64 (d.left - 1), vd] 50 (0, 0)) := heap_setCell_same _ _ 2 _ _ _ hr
    obtain ⟨x0, x1, x2, x3⟩ := four hr2
    have f2 := frow hr 2
    have h1 := ho.lo
    have h2 := ho.hi
    have HT : Hid (d.tick = { d with left := d.left - 1 }) := hid (by unfold Pl.tick; rw [if_pos he])
    have HP : Hid (d.spent = decide (d.left - 1 < 0)) := hid (by unfold Pl.spent; rw [he]; rfl)
    have HS := hid hs
    rw [he] at q1
    generalize d.left = x at *
    clear hs hr hr2 ho x0 x1 x3 q0 q3
    go_enter Try.func89, Try.ntmps89
    go_wp2
    go_ret
    rw [HT.out, HP.out]
    exact ⟨by simp, HS.out⟩
  · have he : d.ends = false := by simpa using he
    have HT : Hid (d.tick = d) := hid (by unfold Pl.tick; rw [he]; rfl)
    have HP : Hid (d.spent = false) := hid (by unfold Pl.spent; rw [he]; rfl)
    rw [he] at q1
    have H := hid h
    clear hr ho h
    go_enter Try.func89, Try.ntmps89
    go_wp2
    go_ret
    rw [HT.out, HP.out]
    exact ⟨rfl, H.out, Kpt.refl _ _⟩
def Pl.inB (d : Pl) (n : Int) : Bool := decide (0 ≤ n ∧ n < (d.b.length : Int))
def Pl.rdE (d : Pl) (n : Int) : Int := if d.spent = true then 4 else if d.inB n = true then 0 else 70
def Pl.rdB (d : Pl) (n : Int) : List UInt8 := if d.spent = true then [] else if d.inB n = true then d.b.getD n.toNat [] else []
theorem tick_b (d : Pl) : d.tick.b = d.b ∧ d.tick.ends = d.ends ∧ d.tick.did = d.did := by unfold Pl.tick; split <;> exact ⟨rfl, rfl, rfl⟩
theorem Read_is {base : Nat} (w : World) (P : Nat) {S : Nat → Prop} {d : Pl} (h : IsPl Q base w P S d) (hl : -100000000 ≤ d.left) (n : Int) (hn : -9223372036854775808 ≤ n ∧ n ≤ 9223372036854775807) :
    Calls Try.prog 138 #[.pointer (some ⟨P, 0, none⟩), .int .i64 n] w fun e w' => (∃ A c N, e = .returned (.tuple #[.slice A N c, .int .i64 (d.rdE n)]) ∧ N = (d.rdB n).length ∧ OwnB w.heap.size w' A c (d.rdB n)) ∧ IsPl Q base w' P S d.tick ∧ Kpt S w w' := by
  have SP := spent_is w P h hl
  have hin := h.inS
  unfold Pl.rdE Pl.rdB
  cases hs : d.spent with
  | true =>
    rw [hs] at SP
    clear h
    go_enter Try.func138, Try.ntmps138
    go_wp2_with fail
    refine SP.mono ?_
    rintro e w1 ⟨rfl, h1, k1⟩
    have H1 := hid h1; have K1 := hid (k1.mono (T := S) (by rintro b rfl; exact hin))
    clear SP h1 k1
    go_wp2
    refine bodyPost_ret (v := .tuple #[.slice none 0 0, .int .i64 4]) (by simp [results, Try.results138, go_sem]) rfl ⟨⟨none, 0, 0, rfl, rfl, OwnB.nil _ _⟩, H1.out, K1.out⟩
  | false =>
    simp only [Bool.false_eq_true, if_false]
    rw [hs] at SP
    have TB := hid (tick_b d).1
    cases hb : d.inB n with
    | true =>
      have hb' := of_decide_eq_true hb
      obtain ⟨m, rfl⟩ : ∃ m : Nat, n = (m : Int) := ⟨n.toNat, by omega⟩
      simp only [if_true, Int.toNat_natCast]
      have hm : m < d.b.length := by omega
      have HB4 := hid (h.ok.b4 _ (List.getElem_mem hm))
      have hgd : d.b.getD m [] = d.b[m] := by simp [hm]
      have HGD := hid hgd
      clear h hb hb' hgd
      go_enter Try.func138, Try.ntmps138
      go_wp2_with fail
      refine SP.mono ?_
      rintro e w1 ⟨rfl, h1, k1⟩
      have K1 := hid (k1.mono (T := S) (by rintro b rfl; exact hin))
      have H1 := hid h1
      obtain ⟨gb, cb, vd, hS, hr⟩ := h1.open4
      obtain ⟨vb', vd', _, _, hr', hp, _⟩ := h1
      rw [hr] at hr'
      simp only [Option.some.injEq, Obj.cells.injEq, plC, Array.mk.injEq, List.cons.injEq, and_true, true_and] at hr'
      obtain ⟨rfl, rfl⟩ := hr'
      obtain ⟨xs, gb', cb', e1, e2, e3⟩ := hp.b
      simp only [Value.slice.injEq, Option.some.injEq, Addr.mk.injEq, and_true, true_and] at e1
      obtain ⟨rfl, rfl⟩ := e1
      obtain ⟨q0, q1, q2, q3⟩ := four hr
      rw [TB.out] at q0 e3
      obtain ⟨v, hv, hdat⟩ := e3.at_ hm
      obtain ⟨b, off, c, rfl, hrd, _⟩ := hdat.rd
      have m0 := World.ownsRow.cellAt e2 m (by rw [TB.out]; omega)
      rw [hv, HB4.out] at m0
      have CB := CopyBytes_any w1 (some ⟨b, off, none⟩) c 4096 d.b[m] HB4.out.symm (by have := HB4.out; omega) hrd
      have hmI : (m : Int) < (d.b.length : Int) := by omega
      clear SP k1 hr hp e2 e3 hv hdat hrd q1 q2 q3
      go_wp2_with fail
      refine CB.mono ?_
      rintro e w2 ⟨A, c2, rfl, o2, b2⟩
      clear CB q0 m0
      have HZ := K1.out.size
      have HO := hid (o2.mono HZ); have HI := hid (H1.out.below b2); have HK := hid (K1.out.trans (.of_below b2))
      clear o2 b2 HZ
      go_wp2
      refine bodyPost_ret (v := .tuple #[.slice A 4096 c2, .int .i64 0]) (by simp [results, Try.results138, go_sem]) rfl ⟨⟨A, c2, 4096, rfl, ?_, ?_⟩, HI.out, HK.out⟩
      · rw [HGD.out, HB4.out]
      · rw [HGD.out]; exact HO.out
    | false =>
      simp only [Bool.false_eq_true, if_false]
      have hb' := of_decide_eq_false hb
      clear h hb
      go_enter Try.func138, Try.ntmps138
      go_wp2_with fail
      refine SP.mono ?_
      rintro e w1 ⟨rfl, h1, k1⟩
      have H1 := hid h1; have K1 := hid (k1.mono (T := S) (by rintro b rfl; exact hin))
      obtain ⟨gb, cb, vd, hS, hr⟩ := h1.open4
      obtain ⟨q0, q1, q2, q3⟩ := four hr
      rw [TB.out] at q0
      clear SP h1 k1 hr q1 q2 q3
      by_cases hn0 : n < 0
      · clear hb'
        go_wp2
        refine bodyPost_ret (v := .tuple #[.slice none 0 0, .int .i64 70]) (by simp [results, Try.results138, go_sem]) rfl ⟨⟨none, 0, 0, rfl, rfl, OwnB.nil _ _⟩, H1.out, K1.out⟩
      · have hn1 : (d.b.length : Int) ≤ n := by omega
        clear hb'
        go_wp2
        refine bodyPost_ret (v := .tuple #[.slice none 0 0, .int .i64 70]) (by simp [results, Try.results138, go_sem]) rfl ⟨⟨none, 0, 0, rfl, rfl, OwnB.nil _ _⟩, H1.out, K1.out⟩
end Go.Proofs.Ytahlhdhljjpeoaa
