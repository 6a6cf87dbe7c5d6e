/- made: what every block was written: the pure side, and memory. -/
import Derived.Test.YtddejjmebokgiaaLaw04g
import Derived.Test.YtddejjmebokgiaaPick
import Derived.ArgAppend
namespace Go.Proofs.Ytddejjmebokgiaa
open Go.RowKit
variable {Q : Nat → Prop}
set_option maxHeartbeats 3200000
set_option maxRecDepth 100000
set_option linter.unusedVariables false
set_option linter.unusedSimpArgs false

/-- What block n was, and was written since the last flush. -/
def snc (d : Dk) (n : Nat) : List (List UInt8) := d.safe.getD n [] :: ((d.wn.zip d.wd).filter (fun p => p.1 == n)).map Prod.snd
/-- A disk of four blocks that nothing stops; as it stands is what was written last. -/
structure Dk.good (d : Dk) : Prop where
  ok : d.ok
  calm : d.calm
  four : d.now.length = 4
  last : ∀ n, n < 4 → d.now.getD n [] = (snc d n).getLastD []
theorem good_put {d : Dk} (h : d.good) {m : Nat} {b : List UInt8} (hm : m < 4) (hb : b.length = 4096) (hw : d.wn.length < 1000000) : (d.put m b).good ∧ ∀ n, snc (d.put m b) n = if n = m then snc d n ++ [b] else snc d n := by
  have hs : ∀ n, snc (d.put m b) n = if n = m then snc d n ++ [b] else snc d n := by
    intro n
    have hz : (d.wn ++ [m]).zip (d.wd ++ [b]) = d.wn.zip d.wd ++ [(m, b)] := by
      rw [List.zip_append h.ok.wlen]; rfl
    unfold snc
    simp only [Dk.put, hz, List.filter_append, List.map_append]
    by_cases e : n = m
    · subst e; simp
    · rw [if_neg e]
      have : ¬ (m = n) := fun x => e x.symm
      simp [this]
  refine ⟨⟨h.ok.put (by rw [h.four]; exact hm) hb hw, ⟨h.calm.down, h.calm.aon, h.calm.fon⟩, by simp [Dk.put, h.four], ?_⟩, hs⟩
  intro n hn
  rw [hs n]
  by_cases e : n = m
  · subst e
    rw [if_pos rfl]
    simp [Dk.put, h.four, hm]
  · rw [if_neg e, ← h.last n hn]
    simp only [Dk.put, List.getD_eq_getElem?_getD]
    rw [List.getElem?_set_ne (fun x => e x.symm)]
theorem good_flush {d : Dk} (h : d.good) : d.flush.good ∧ ∀ n, n < 4 → snc d.flush n = [(snc d n).getLastD []] := by
  have hs : ∀ n, n < 4 → snc d.flush n = [(snc d n).getLastD []] := by
    intro n hn
    rw [← h.last n hn]
    simp [snc, Dk.flush]
  refine ⟨⟨h.ok.flush, ⟨h.calm.down, h.calm.aon, h.calm.fon⟩, h.four, ?_⟩, hs⟩
  intro n hn
  rw [hs n hn]
  show d.now.getD n [] = _
  rw [h.last n hn]
  rfl
theorem good_new : (newDk 4).good ∧ ∀ n, n < 4 → snc (newDk 4) n = [zeros 4096] := by
  have hs : ∀ n, n < 4 → snc (newDk 4) n = [zeros 4096] := by
    intro n hn
    have : (List.replicate 4 (zeros 4096)).getD n [] = zeros 4096 := by
      rw [List.getD_eq_getElem?_getD, List.getElem?_eq_getElem (by simpa using hn), List.getElem_replicate]; rfl
    simp only [snc, newDk, mkDk, this, List.zip_nil_left, List.filter_nil, List.map_nil]
  have h4 : ∀ l ∈ List.replicate 4 (zeros 4096), l.length = 4096 := fun l hl => by rw [List.eq_of_mem_replicate hl]; exact zeros_length _
  refine ⟨⟨⟨rfl, by simp [newDk, mkDk], by simp [newDk, mkDk], rfl, by simp [newDk, mkDk], by simp [newDk, mkDk], h4, h4, by simp [newDk, mkDk]⟩, ⟨rfl, rfl, rfl⟩, by simp [newDk, mkDk], ?_⟩, hs⟩
  intro n hn
  rw [hs n hn]
  show (List.replicate 4 (zeros 4096)).getD n [] = _
  rw [List.getD_eq_getElem?_getD, List.getElem?_eq_getElem (by simpa using hn), List.getElem_replicate]; rfl
/-- One step of the work. -/
def mstep (x : Int) (d : Dk) : Dk := if pickN x 1000003 % 6 = 0 then d.flush else d.put (pickN x 1000003 / 6 % 4) (madeB (pickN x 1000003 : Int) 4096)
def mst (ws : List Int) : Nat → Dk
  | 0 => newDk 4
  | i + 1 => mstep (ws.getD i 0) (mst ws i)
theorem mst_good (ws : List Int) : ∀ i, i ≤ 1000 → (mst ws i).good ∧ (mst ws i).wn.length ≤ i
  | 0, _ => ⟨good_new.1, by simp [mst, newDk, mkDk]⟩
  | i + 1, h => by
    obtain ⟨h1, h2⟩ := mst_good ws i (by omega)
    unfold mst mstep
    split
    · exact ⟨(good_flush h1).1, by simp [Dk.flush]⟩
    · refine ⟨(good_put h1 (by omega) (madeB_length _ _) (by omega)).1, ?_⟩
      simp [Dk.put]; omega

/-! Memory: lists of blocks, each in a row that begins anywhere. -/
def OffR (w : World) (g off cap : Nat) (ls : List (List UInt8)) : Prop :=
  ∃ (cur : Array Value) (xs : List Value), w.heap[g]? = some (.cells cur 30 (0, 0)) ∧ Dats AnyB w xs ls ∧ (∀ j u, xs[j]? = some u → cur[off + j]? = some u) ∧ ls.length ≤ cap ∧ off + cap ≤ cur.size ∧ cap ≤ 9223372036854775807
theorem OffR.kpt {T : Nat → Prop} {w w' : World} {g off cap : Nat} {ls : List (List UInt8)} (h : OffR w g off cap ls) (k : Kpt T w w') (hT : ∀ b, T b → ¬ U8 w b) (hg : ¬ T g) : OffR w' g off cap ls := by
  obtain ⟨cur, xs, h1, h2, h3⟩ := h
  exact ⟨cur, xs, (k.block g (heap_in h1) hg).trans h1, h2.kpt k hT, h3⟩
theorem OffR.below {w w' : World} {g off cap : Nat} {ls : List (List UInt8)} (h : OffR w g off cap ls) (k : Below w.heap.size w w') : OffR w' g off cap ls := h.kpt (T := fun _ => False) (.of_below k) (fun _ h => h.elim) (fun h => h)
theorem OffR.nou {w : World} {g off cap : Nat} {ls : List (List UInt8)} (h : OffR w g off cap ls) : ¬ U8 w g ∧ g < w.heap.size := by
  obtain ⟨cur, xs, h1, _⟩ := h
  exact ⟨row_not_u8 h1 (by decide), heap_in h1⟩
/-- The k-th of them. -/
theorem OffR.at_ {w : World} {g off cap : Nat} {ls : List (List UInt8)} (h : OffR w g off cap ls) {j : Nat} (hj : j < ls.length) : ∃ v, w.cell? ⟨g, off + j, none⟩ = some v ∧ Dat AnyB w v ls[j] := by
  obtain ⟨cur, xs, h1, h2, h3, _⟩ := h
  obtain ⟨v, hv, hd⟩ := h2.at_ hj
  exact ⟨v, by rw [cell_of_row _ _ _ _ _ _ h1]; exact h3 j v hv, hd⟩
/-- Its end alone. -/
theorem OffR.last {w : World} {g off cap : Nat} {ls : List (List UInt8)} (h : OffR w g off cap ls) (hn : 0 < ls.length) : OffR w g (off + (ls.length - 1)) (cap - (ls.length - 1)) [ls.getLastD []] := by
  obtain ⟨cur, xs, h1, h2, h3, h4, h5, h6⟩ := h
  have hl := h2.1
  have hj : ls.length - 1 < ls.length := by omega
  obtain ⟨v, hv, hd⟩ := h2.at_ hj
  have e : ls.getLastD [] = ls[ls.length - 1] := by
    rw [List.getLastD_eq_getLast?, List.getLast?_eq_getElem?, List.getElem?_eq_getElem hj]; rfl
  refine ⟨cur, [v], h1, ⟨rfl, fun i u l a b => ?_⟩, fun j u hu => ?_, by simp; omega, by omega, by omega⟩
  · rcases i with _ | i
    · simp only [List.getElem?_cons_zero, Option.some.injEq] at a b
      subst a b
      rw [e]; exact hd
    · simp at a
  · rcases j with _ | j
    · simp only [List.getElem?_cons_zero, Option.some.injEq] at hu
      subst hu
      rw [Nat.add_zero]
      exact h3 _ _ hv
    · simp at hu
theorem setCells_one (w : World) (b o : Nat) (v : Value) : w.setCells b o [v] = w.setCell ⟨b, o, none⟩ v := rfl
/-- One more behind it. -/
theorem run_app_off {W : World} (ty : TypeId) (g off cap : Nat) (ls : List (List UInt8)) (l : List UInt8) (h : OffR W g off cap ls) (hm : ls.length ≤ 1000000) (x : Nat) (u : Value) (c : Nat) (hx : W.cell? ⟨x, 0, none⟩ = some u) (hu : Dat AnyB W u l) :
    ∃ g' off' cap' w1, (Builtin.append_ #[33, 33] ty #[.slice (some ⟨g, off, none⟩) ls.length cap, .slice (some ⟨x, 0, none⟩) 1 c]).run Try.prog W = .ok (.slice (some ⟨g', off', none⟩) (ls.length + 1) cap') w1 ∧ OffR w1 g' off' cap' (ls ++ [l]) ∧ Kpt (fun b => b = g) W w1 ∧ (g' = g ∨ W.heap.size ≤ g') := by
  obtain ⟨i0, hi, hz0, hz1, hz2⟩ := info_parts info_L
  have ht := Try.underlying33
  obtain ⟨cur, xs, h1, h2, h3, h4, h5, h6⟩ := h
  have hxl := h2.1
  have hone : u.oneCell' = true := by obtain ⟨_, _, _, rfl, _⟩ := hu.rd; rfl
  have hnew : ∀ (j : Nat) (v : Value), [u][j]? = some v → W.cell? ((⟨x, 0, none⟩ : Addr).add j) = some v := by
    intro j v hv
    rcases j with _ | j
    · simp only [List.getElem?_cons_zero, Option.some.injEq] at hv; subst hv; rw [add_plain]; exact hx
    · simp at hv
  have hno : ¬ U8 W g := row_not_u8 h1 (by decide)
  by_cases hroom : ls.length + 1 ≤ cap
  · have hlt : off + ls.length < cur.size := by omega
    have hr := run_append_room_cells (P := Try.prog) (w := W) 33 ty 30 i0 ht hi g off ls.length cap ⟨x, 0, none⟩ 1 c [u] (by simp [hz1]) hnew (by simp [hone]) hroom
      (by intro j hj; simp at hj; subst hj; rw [hz1, cell_of_row _ _ _ _ _ _ h1]; simp [hlt]) (by intro j hj; exact frow h1 _)
    rw [hz1, Nat.mul_one, setCells_one] at hr
    have hk : Kpt (fun b => b = g) W (W.setCell ⟨g, off + ls.length, none⟩ u) := kpt_one u
    refine ⟨g, off, cap, _, hr, ⟨cur.setIfInBounds (off + ls.length) u, xs ++ [u], heap_setCell_same _ _ _ _ _ _ h1, (h2.kpt hk (by rintro b rfl; exact hno)).snoc (hu.kpt hk (by rintro b rfl; exact hno)), fun j v hv => ?_, by simpa using hroom, by simpa using h5, h6⟩, hk, .inl rfl⟩
    by_cases hj : j < xs.length
    · rw [List.getElem?_append_left hj] at hv
      rw [Array.getElem?_setIfInBounds_ne (by omega)]
      exact h3 j v hv
    · rw [List.getElem?_append_right (by omega)] at hv
      have hj2 : j = ls.length := by have := (List.getElem?_eq_some_iff.1 hv).1; simp at this; omega
      subst hj2
      rw [hxl] at hv
      simp at hv
      subst hv
      simp [hlt]
  · have hr := run_append_grow (P := Try.prog) W 33 ty 30 i0 (.slice none 0 0) ht hi hz0 ⟨g, off, none⟩ ls.length cap xs (by rw [hz1, Nat.mul_one]; exact hxl) (fun j v hv => by rw [add_plain, cell_of_row _ _ _ _ _ _ h1]; exact h3 j v hv)
      ⟨x, 0, none⟩ 1 c [u] (by simp [hz1]) hnew (by omega) (by omega) (growslice_fits_wide (by omega) (by rw [hz2]; omega))
    have hb : Below W.heap.size W (W.drew.alloc (.cells (xs.toArray ++ [u].toArray ++ Builtin.zeroCells (Value.slice none 0 0).cells (grownCap W (ls.length + 1) cap 30 - (ls.length + 1))) 30)) := below_new' W _
    have hcap := grownCap_ge W (ls.length + 1) cap 30
    have hcap2 := grownCap_le_maxLen W (ls.length + 1) cap 30 (by simp only [maxLen]; omega)
    refine ⟨W.heap.size, 0, _, _, hr, ⟨_, xs ++ [u], heap_alloc_new W.drew _, (h2.below hb).snoc (hu.below hb), fun j v hv => ?_, by simpa using hcap, ?_, by simpa [maxLen] using hcap2⟩, .of_below hb, .inr (Nat.le_refl _)⟩
    · rw [Nat.zero_add, Array.getElem?_append_left (by have := (List.getElem?_eq_some_iff.1 hv).1; simpa using this)]
      simpa using hv
    · simp only [Array.size_append, List.size_toArray, size_zeroCells, Value.cells, List.length_cons, List.length_nil, Nat.zero_add, Array.size_empty]
      simp
      omega
/-- What is kept of the four lists. -/
structure Sn (base : Nat) (w : World) (s : Nat) (G : Nat → Nat) (F : Nat → List (List UInt8)) : Prop where
  ex : ∃ (cs : Array Value) (off cap : Nat → Nat), w.heap[s]? = some (.cells cs 33 (0, 0)) ∧ cs.size = 4 ∧ ∀ k, k < 4 → cs[k]? = some (.slice (some ⟨G k, off k, none⟩) (F k).length (cap k)) ∧ OffR w (G k) (off k) (cap k) (F k)
  ge : ∀ k, k < 4 → base ≤ G k
  ne : ∀ j k, j < 4 → k < 4 → j ≠ k → G j ≠ G k
  bs : base ≤ s
theorem Sn.kpt {T : Nat → Prop} {base s : Nat} {w w' : World} {G : Nat → Nat} {F : Nat → List (List UInt8)} (h : Sn base w s G F) (k : Kpt T w w') (hT : ∀ b, T b → ¬ U8 w b) (hs : ¬ T s) (hg : ∀ k, k < 4 → ¬ T (G k)) : Sn base w' s G F := by
  obtain ⟨⟨cs, off, cap, h1, h2, h3⟩, h4, h5, h6⟩ := h
  exact ⟨⟨cs, off, cap, (k.block s (heap_in h1) hs).trans h1, h2, fun j hj => ⟨(h3 j hj).1, (h3 j hj).2.kpt k hT (hg j hj)⟩⟩, h4, h5, h6⟩
theorem Sn.below {base s : Nat} {w w' : World} {G : Nat → Nat} {F : Nat → List (List UInt8)} (h : Sn base w s G F) (k : Below w.heap.size w w') : Sn base w' s G F := h.kpt (T := fun _ => False) (.of_below k) (fun _ h => h.elim) (fun h => h) (fun _ _ h => h)
theorem Sn.lt {base s : Nat} {w : World} {G : Nat → Nat} {F : Nat → List (List UInt8)} (h : Sn base w s G F) : s < w.heap.size ∧ ∀ k, k < 4 → G k < w.heap.size := by
  obtain ⟨⟨cs, off, cap, h1, h2, h3⟩, _⟩ := h
  exact ⟨heap_in h1, fun k hk => (h3 k hk).2.nou.2⟩
/-- The k-th list. -/
theorem Sn.at_ {base s : Nat} {w : World} {G : Nat → Nat} {F : Nat → List (List UInt8)} (h : Sn base w s G F) {k : Nat} (hk : k < 4) :
    ∃ off cap, w.cell? ⟨s, k, none⟩ = some (.slice (some ⟨G k, off, none⟩) (F k).length cap) ∧ OffR w (G k) off cap (F k) ∧ (F k).length ≤ cap ∧ cap ≤ 9223372036854775807 ∧ w.frozen? ⟨s, k, none⟩ = false := by
  obtain ⟨⟨cs, off, cap, h1, h2, h3⟩, _⟩ := h
  obtain ⟨q1, q2⟩ := h3 k hk
  have q3 := q2
  obtain ⟨_, _, _, _, _, q4, _, q5⟩ := q3
  exact ⟨off k, cap k, by rw [cell_of_row _ _ _ _ _ _ h1]; exact q1, q2, q4, q5, frow h1 k⟩
/-- Another k-th list. -/
theorem Sn.put {base s : Nat} {w w1 : World} {G : Nat → Nat} {F : Nat → List (List UInt8)} (h : Sn base w s G F) {k : Nat} (hk : k < 4) {g off cap : Nat} {ls : List (List UInt8)} (kp : Kpt (fun b => b = G k) w w1) (hg : g = G k ∨ w.heap.size ≤ g) (ho : OffR w1 g off cap ls) (hb : base ≤ w.heap.size) :
    Sn base (w1.setCell ⟨s, k, none⟩ (.slice (some ⟨g, off, none⟩) ls.length cap)) s (upd G k g) (upd F k ls) := by
  have hlt := h.lt
  obtain ⟨⟨cs, off0, cap0, h1, h2, h3⟩, h4, h5, h6⟩ := h
  have hnoK : ¬ U8 w (G k) := (h3 k hk).2.nou.1
  have hsG : ∀ j, j < 4 → G j ≠ s := by
    rintro j hj rfl
    obtain ⟨_, _, q, _⟩ := (h3 j hj).2
    rw [h1] at q
    simp at q
  have hs1 : w1.heap[s]? = some (.cells cs 33 (0, 0)) := (kp.block s (heap_in h1) (fun e => hsG k hk e.symm)).trans h1
  have ks : Kpt (fun b => b = s) w1 (w1.setCell ⟨s, k, none⟩ (.slice (some ⟨g, off, none⟩) ls.length cap)) := kpt_one _
  have hns : ∀ b, b = s → ¬ U8 w1 b := by rintro b rfl; exact row_not_u8 hs1 (by decide)
  have hgs : g ≠ s := by
    rcases hg with rfl | hg
    · exact hsG k hk
    · have := hlt.1; omega
  refine ⟨⟨cs.setIfInBounds k (.slice (some ⟨g, off, none⟩) ls.length cap), upd off0 k off, upd cap0 k cap, heap_setCell_same _ _ _ _ _ _ hs1, by simpa using h2, fun j hj => ?_⟩, fun j hj => ?_, fun i j hi hj hij => ?_, h6⟩
  · by_cases e : j = k
    · subst e
      simp only [upd, if_pos]
      exact ⟨by simp [h2, hj], ho.kpt ks hns hgs⟩
    · simp only [upd, if_neg e]
      rw [Array.getElem?_setIfInBounds_ne (fun x => e x.symm)]
      exact ⟨(h3 j hj).1, ((h3 j hj).2.kpt kp (by rintro b rfl; exact hnoK) (h5 j k hj hk e)).kpt ks hns (hsG j hj)⟩
  · by_cases e : j = k
    · subst e
      simp only [upd, if_pos]
      rcases hg with rfl | hg
      · exact h4 j hj
      · omega
    · simp only [upd, if_neg e]
      exact h4 j hj
  · have hl := hlt.2
    by_cases e : i = k
    · subst e
      have e2 : ¬ j = i := fun x => hij x.symm
      simp only [upd, if_pos, if_neg e2]
      rcases hg with rfl | hg
      · exact h5 i j hi hj hij
      · have := hl j hj; omega
    · by_cases e2 : j = k
      · subst e2
        simp only [upd, if_pos, if_neg e]
        rcases hg with rfl | hg
        · exact h5 i j hi hj e
        · have := hl i hi; omega
      · simp only [upd, if_neg e, if_neg e2]
        exact h5 i j hi hj hij
end Go.Proofs.Ytddejjmebokgiaa
