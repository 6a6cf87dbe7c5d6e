/- Load and New. -/
import Derived.Test.YtddejjmebokgiaaDkR
namespace Go.Proofs.Ytddejjmebokgiaa
open Go.RowKit
variable {Q : Nat → Prop}
set_option maxHeartbeats 3200000
set_option maxRecDepth 100000
set_option linter.unusedVariables false
set_option linter.unusedSimpArgs false
attribute [local go_sem] Oper.semAt_some

def mkDk (L : List (List UInt8)) : Dk := { safe := L, now := L, wn := [], wd := [], count := 0, down := false, aon := false, aleft := 0, fon := false, fleft := 0 }
def chunks (img : List UInt8) (m : Nat) : List (List UInt8) := (List.range m).map fun k => (img.drop (k * 4096)).take 4096
theorem kpt_below' {S : Nat → Prop} {B : Nat} {a w w' : World} (h : Below B a w) (k : Kpt S w w') (hB : B ≤ w.heap.size) (hs : ∀ j, j < B → ¬ S j) : Below B a w' :=
  ⟨k.os.trans h.os, k.tape.trans h.tape, k.output.trans h.output, Nat.le_trans h.size k.size, fun j hj => (k.block j (by omega) (hs j hj)).trans (h.block j hj)⟩
/-- What Load's loop keeps. -/
def ldRow (A : Option Addr) (n c : Nat) : Array Value := #[.slice A n c, .slice none 0 0, .slice none 0 0, .int .i64 0, .bool false, .bool false, .int .i64 0, .bool false, .int .i64 0]
structure LdI (w : World) (B3 D g : Nat) (gobj : Obj) (pre : List Nat) (W : World) : Prop where
  row : ∃ A c, W.heap[D]? = some (.cells (ldRow A pre.length c) 74 (0, 0)) ∧ W.ownsRow B3 30 1 (.slice A pre.length c) pre.length (pre.map (chV g))
  box : W.heap[D + 1]? = some (.cells #[ptr D] 24 (0, 0))
  img : W.heap[g]? = some gobj
  size : B3 ≤ W.heap.size
  below : Below w.heap.size w W
theorem cells_kept {W W' : World} {row : Option Nat} {b : Nat} {cs : Array Value} {t : TypeId} {f : Nat × Nat} (h : W.heap[b]? = some (.cells cs t f)) (hg : W.grownBy W' row) (hr : ∀ r, row = some r → ∃ o : Obj, W.heap[r]? = some o ∧ o.isCells = false) : W'.heap[b]? = some (.cells cs t f) := by
  refine (hg.block b (heap_in h) (fun e => ?_)).trans h
  obtain ⟨o, ho, hc⟩ := hr b e.symm
  rw [h] at ho
  cases ho
  simp [Obj.isCells] at hc
theorem own_keptR {W W' : World} {row : Option Nat} {base n size : Nat} {e : TypeId} {v : Value} {xs : List Value} (h : W.ownsRow base e size v n xs) (hg : W.grownBy W' row) (hr : ∀ r, row = some r → ∃ o : Obj, W.heap[r]? = some o ∧ o.isCells = false) : W'.ownsRow base e size v n xs := by
  refine ⟨h.1, ?_⟩
  rcases h.2 with h0 | ⟨g', cap, cur, rfl, hb, hg', r⟩
  · exact .inl h0
  · exact .inr ⟨g', cap, cur, rfl, hb, cells_kept hg' hg hr, r⟩
theorem LdI.own {w : World} {B3 D g : Nat} {cur : Array Value} (hB : w.heap.size ≤ B3) : OwnFrom B3 (LdI w B3 D g (.cells cur 5 (0, 0))) := by
  rintro pre W W' row ⟨⟨A, c, h1, h2⟩, h3, h4, h5, h6⟩ hg hr
  have hr' : ∀ r, row = some r → ∃ o : Obj, W.heap[r]? = some o ∧ o.isCells = false := fun r e => (hr r e).2
  exact ⟨⟨A, c, cells_kept h1 hg hr', own_keptR h2 hg hr'⟩, cells_kept h3 hg hr', cells_kept h4 hg hr', Nat.le_trans h5 hg.size, h6.grown hg (Nat.le_trans hB h5) (fun k e => Nat.le_trans hB (hr k e).1)⟩
theorem keepsO {W W' : World} (h : Below W.heap.size W W') : KeepsOthers W W' := ⟨h.size, fun k o hk _ => (h.block k (heap_in hk)).trans hk⟩
/-- One more block. -/
theorem ld_mem {w W w5 : World} {B3 D g Bs Bn x c c5 : Nat} {cur : Array Value} {A A5 : Option Addr} {pre : List Nat} {o : Obj} (hB : w.heap.size ≤ B3) (hI : LdI w B3 D g (.cells cur 5 (0, 0)) pre W) (hD : D < B3) (hDw : w.heap.size ≤ D) (hD1 : D + 1 < B3) (hg : g < B3) (hgD : g ≠ D) (hBs : Bs < B3) (hBn : Bn < B3) (hBsD : Bs ≠ D) (hBnD : Bn ≠ D)
    (hrow : W.heap[D]? = some (.cells (ldRow A pre.length c) 74 (0, 0))) (hown : W.ownsRow B3 30 1 (.slice A pre.length c) pre.length (pre.map (chV g)))
    (h5 : w5.ownsRow B3 30 1 (.slice A5 (pre.length + 1) c5) (pre.length + 1) (pre.map (chV g) ++ [chV g x]))
    (h6 : ((Value.slice A5 (pre.length + 1) c5).ownBlock = (Value.slice A pre.length c).ownBlock ∧ (W.drew.alloc o).grownBy w5 (Value.slice A pre.length c).ownBlock) ∨ ((Value.slice A5 (pre.length + 1) c5).ownBlock = some (W.drew.alloc o).heap.size ∧ Below (W.drew.alloc o).heap.size (W.drew.alloc o) w5)) :
    w5.heap[D]? = some (.cells (ldRow A pre.length c) 74 (0, 0)) ∧ KeepsOthers W (w5.setCell ⟨D, 0, none⟩ (.slice A5 (pre.length + 1) c5)) ∧ KpB Bs Bn W (w5.setCell ⟨D, 0, none⟩ (.slice A5 (pre.length + 1) c5)) ∧
      LdI w B3 D g (.cells cur 5 (0, 0)) (pre ++ [x]) (w5.setCell ⟨D, 0, none⟩ (.slice A5 (pre.length + 1) c5)) := by
  have b1 : Below W.heap.size W (W.drew.alloc o) := below_new' W o
  have hsz := hI.size
  have kb : ∀ b, (Value.slice A pre.length c).ownBlock = some b → B3 ≤ b := fun b hb => (own_row hown hb).1
  have k5 : Kpt (fun b => (Value.slice A pre.length c).ownBlock = some b) (W.drew.alloc o) w5 := by
    rcases h6 with ⟨_, h⟩ | ⟨_, h⟩
    · exact Kpt.of_grown h (fun j e => e)
    · exact Kpt.of_below h
  have keep : ∀ b, b < B3 → w5.heap[b]? = W.heap[b]? := fun b hb => (k5.block b (Nat.lt_of_lt_of_le (Nat.lt_of_lt_of_le hb hsz) b1.size) (fun e => by have := kb b e; omega)).trans (b1.block b (by omega))
  have hr5 := (keep D hD).trans hrow
  have hko : KeepsOthers (W.drew.alloc o) w5 := by
    rcases h6 with ⟨_, h⟩ | ⟨_, h⟩
    · refine KeepsOthers.of_grownBy h (fun j ob e hj => ?_)
      obtain ⟨_, hlt, cs, q⟩ := own_row hown e
      rw [(b1.block j hlt).trans q] at hj
      cases hj
      rfl
    · exact keepsO h
  have hne : ∀ b, b ≠ D → (w5.setCell ⟨D, 0, none⟩ (.slice A5 (pre.length + 1) c5)).heap[b]? = w5.heap[b]? := fun b hb => heap_setCell_other _ _ _ _ hb
  refine ⟨hr5, ((keepsO b1).trans hko).trans (KeepsOthers.setCell _ _ _), ⟨(hne Bs hBsD).trans (keep Bs hBs), (hne Bn hBnD).trans (keep Bn hBn)⟩, ⟨A5, c5, ?_, ?_⟩, (hne (D + 1) (by omega)).trans ((keep (D + 1) hD1).trans hI.box), (hne g hgD).trans ((keep g hg).trans hI.img), ?_, ?_⟩
  · rw [List.length_append]
    exact heap_setCell_same _ _ _ _ _ _ hr5
  · rw [List.length_append, List.map_append]
    refine own_kpt h5 (kpt_one (g := D) (i := 0) _) (fun b hb => ?_)
    exact own_neD h5 hr5 (by decide) hb
  · have := k5.size
    have := b1.size
    simp [World.setCell]
    omega
  · refine Below.setCell ?_ hDw _
    refine kpt_below' (hI.below.trans (b1.mono (by omega))) k5 (by have := b1.size; omega) (fun j hj e => by have := kb j e; omega)
theorem cell_far {w : World} {b off : Nat} {v u : Value} {p : Addr} (hp : b ≠ p.block) (h : w.cell? ⟨b, off, none⟩ = some v) : (w.setCell p u).cell? ⟨b, off, none⟩ = some v :=
  Kpt.cell (S := fun j => j = p.block) (w := w) (w' := w.setCell p u) ⟨rfl, rfl, rfl, by simp [World.setCell], fun j hj hs => Below.heap_setCell _ _ _ _ hs⟩ h hp
theorem row_two (w : World) (o p : Obj) : ((w.alloc o).alloc p).heap[w.heap.size + 1]? = some p := by
  have h := heap_alloc_new (w.alloc o) p
  have e : (w.alloc o).heap.size = w.heap.size + 1 := by simp
  rw [e] at h
  exact h
theorem chunks_4 {img : List UInt8} {m : Nat} (hN : img.length = 4096 * m) : ∀ l ∈ chunks img m, l.length = 4096 := by
  intro l hl
  simp only [chunks, List.mem_map, List.mem_range] at hl
  obtain ⟨k, hk, rfl⟩ := hl
  rw [List.length_take, List.length_drop]
  omega
theorem chunk_dats {W : World} {g m : Nat} {cur : List Value} {img : List UInt8} (hg : W.heap[g]? = some (.cells cur.toArray 5 (0, 0))) (hct : cur.take img.length = B8s img) (hN : img.length = 4096 * m) (hq : Q g) : Dats Q W ((List.range m).map (chV g)) (chunks img m) := by
  refine ⟨by simp [chunks], fun i v l h1 h2 => ?_⟩
  have hi : i < m := by have := (List.getElem?_eq_some_iff.1 h1).1; simpa using this
  simp only [List.getElem?_map, List.getElem?_range hi, Option.map_some, Option.some.injEq] at h1
  simp only [chunks, List.getElem?_map, List.getElem?_range hi, Option.map_some, Option.some.injEq] at h2
  subst h1 h2
  have hl : ((img.drop (i * 4096)).take 4096).length = 4096 := by rw [List.length_take, List.length_drop]; omega
  refine ⟨g, i * 4096, 4096, cur.toArray, by rw [hl]; rfl, hg, fun j u hu => ?_, by rw [hl]; exact Nat.le_refl _, by omega, hq⟩
  have hj : j < 4096 := by have := (List.getElem?_eq_some_iff.1 hu).1; rwa [B8s_length, hl] at this
  have e : (B8s ((img.drop (i * 4096)).take 4096))[j]? = (B8s img)[i * 4096 + j]? := by
    simp only [B8s, List.getElem?_map, List.getElem?_take, List.getElem?_drop, if_pos hj]
  rw [e, ← hct, List.getElem?_take] at hu
  split at hu
  · simpa using hu
  · cases hu
theorem ld_s2 {w6 : World} {D c0 m : Nat} {gs : Nat} {cs : Array Value} {t : TypeId} (s1 : w6.cell? ⟨D + 1, 0, none⟩ = some (.pointer (some ⟨D, 0, none⟩)) ∧ w6.cell? ⟨D, 0, none⟩ = some (.slice (some ⟨gs, 0, none⟩) m c0)) (hr : w6.heap[D]? = some (.cells cs t (0, 0))) (u : Value) :
    (w6.setCell ⟨D, 1, none⟩ u).cell? ⟨D + 1, 0, none⟩ = some (.pointer (some ⟨D, 0, none⟩)) ∧ (w6.setCell ⟨D, 1, none⟩ u).cell? ⟨D, 0, none⟩ = some (.slice (some ⟨gs, 0, none⟩) m c0) := by
  refine ⟨cell_far (by simp) s1.1, ?_⟩
  have h := s1.2
  rw [cell_of_row _ _ _ _ _ _ hr] at h
  rw [cell_of_row _ _ _ _ _ _ (heap_setCell_same _ _ _ _ _ _ hr), Array.getElem?_setIfInBounds_ne (by decide)]
  exact h
/-- The disk that Load leaves. -/
theorem ld_end {w W w6 : World} {B3 m gs c0 c6 Dd : Nat} {A6 : Option Addr} {xs : List Value} {L : List (List UInt8)} (hsz : w.heap.size ≤ W.heap.size) (hB3 : w.heap.size ≤ B3) (hb : Below w.heap.size w W) (b6 : Below W.drew.heap.size W.drew w6)
    (hr6 : w6.heap[w.heap.size]? = some (.cells #[.slice (some ⟨gs, 0, none⟩) m c0, .slice none 0 0, .slice none 0 0, .int .i64 0, .bool false, .bool false, .int .i64 0, .bool false, .int .i64 0] 74 (0, 0)))
    (ho : W.ownsRow B3 30 1 (.slice (some ⟨gs, 0, none⟩) m c0) m xs) (h6 : w6.ownsRow W.drew.heap.size 30 1 (.slice A6 m c6) m xs) (hd : Dats Q W xs L) (hL : L.length = m) (h1 : 1 ≤ m) (h2 : m ≤ 512) (h4 : ∀ l ∈ L, l.length = 4096) (hgs : gs < W.heap.size)
    (hK : W.heap[Dd]? = some (.deferred (some []))) (hDd : w.heap.size < Dd) :
    (∃ g6, A6 = some ⟨g6, 0, none⟩) ∧ ∀ W8, W8 = w6.setCell ⟨w.heap.size, 1, none⟩ (.slice A6 m c6) → ∃ S, IsDk Q w.heap.size (W8.putObj Dd (.deferred none)) w.heap.size S (mkDk L) ∧ Below w.heap.size w (W8.putObj Dd (.deferred none)) ∧ W8.heap[Dd]? = some (.deferred (some [])) := by
  obtain ⟨g6, c6', hx, hg6, hg6'⟩ := own_slice' h6 (by omega) (by decide)
  simp only [Value.slice.injEq, true_and] at hx
  obtain ⟨rfl, rfl⟩ := hx
  have hbd : Below W.heap.size W w6 := (show Below W.heap.size W W.drew from ⟨rfl, rfl, rfl, Nat.le_refl _, fun _ _ => rfl⟩).trans b6
  have hg6'' : W.heap.size ≤ g6 := hg6
  refine ⟨⟨g6, rfl⟩, ?_⟩
  rintro W8 rfl
  subst hL
  have hok : (mkDk L).ok := ⟨rfl, h1, h2, rfl, by simp [mkDk], by simp [mkDk], h4, h4, by simp [mkDk]⟩
  have hp : Prt Q w.heap.size w6 (mkDk L) (.slice (some ⟨gs, 0, none⟩) L.length c0) (.slice (some ⟨g6, 0, none⟩) L.length c6) (.slice none 0 0) := by
    refine ⟨⟨xs, gs, c0, rfl, own_mono (own_below ho hbd) hB3, hd.below hbd⟩, ⟨xs, g6, c6, rfl, own_mono h6 hsz, hd.below hbd⟩, ⟨[], World.ownsRow_nil _ _ _ _, Dats.nil _⟩, ?_⟩
    simp only [Value.ownBlock, Option.map_some, ne_eq, Option.some.injEq]
    omega
  have hI := refit (w := w6) (W := w6.setCell ⟨w.heap.size, 1, none⟩ (.slice (some ⟨g6, 0, none⟩) L.length c6)) (Nat.le_refl _) hr6 (kpt_one _) hp hok (heap_setCell_same _ _ _ _ _ _ hr6)
  have hK6 := (hbd.block Dd (heap_in hK)).trans hK
  have hK8 : (w6.setCell ⟨w.heap.size, 1, none⟩ (.slice (some ⟨g6, 0, none⟩) L.length c6)).heap[Dd]? = some (.deferred (some [])) := (heap_setCell_other _ _ _ _ (by simp; omega)).trans hK6
  have kp : Kpt (fun b => b = Dd) (w6.setCell ⟨w.heap.size, 1, none⟩ (.slice (some ⟨g6, 0, none⟩) L.length c6)) ((w6.setCell ⟨w.heap.size, 1, none⟩ (.slice (some ⟨g6, 0, none⟩) L.length c6)).putObj Dd (.deferred none)) := Kpt.of_grown (grownBy_putObj' _ _ _) (fun j e => (Option.some.inj e).symm)
  have hnc : ∀ b, b = Dd → ¬ U8 (w6.setCell ⟨w.heap.size, 1, none⟩ (.slice (some ⟨g6, 0, none⟩) L.length c6)) b := by
    rintro b rfl ⟨cs, h⟩
    rw [hK8] at h
    cases h
  refine ⟨_, hI.kpt kp hnc ?_, ?_, hK8⟩
  · rintro b hS rfl
    have hI' := hI
    obtain ⟨vs, vn, vw, hSS, _, hr, hpp, _⟩ := hI'
    rcases hSS ▸ hS with e | e | e | e
    · omega
    · obtain ⟨_, _, _, _, q, _⟩ := hpp.s
      obtain ⟨_, _, cs, q⟩ := own_row q e
      rw [hK8] at q; cases q
    · obtain ⟨_, _, _, _, q, _⟩ := hpp.n
      obtain ⟨_, _, cs, q⟩ := own_row q e
      rw [hK8] at q; cases q
    · obtain ⟨_, q, _⟩ := hpp.w
      obtain ⟨_, _, cs, q⟩ := own_row q e
      rw [hK8] at q; cases q
  · exact kpt_below' ((hb.trans (hbd.mono hsz)).setCell (p := ⟨w.heap.size, 1, none⟩) (Nat.le_refl _) _) kp (by have := hbd.size; simp [World.setCell]; omega) (by rintro j hj rfl; omega)
theorem Load_any (w : World) (b off c : Nat) (img : List UInt8) (m : Nat) (h1 : 1 ≤ m) (h2 : m ≤ 512) (hN : img.length = 4096 * m) (hr : RdB w (some ⟨b, off, none⟩) img) :
    Calls Try.prog 22 #[.slice (some ⟨b, off, none⟩) (4096 * m) c] w fun e w' => ∃ D S, e = .returned (.tuple #[ptr D, .int .i64 0]) ∧ IsDk (fun b => w.heap.size ≤ b) w.heap.size w' D S (mkDk (chunks img m)) ∧ Below w.heap.size w w' := by
  have C := fun w (hr : RdB w (some ⟨b, off, none⟩) img) => CloneB_any w b off c _ img rfl (by omega) hr
  rw [hN] at C
  have HN := hid hN
  clear hN
  refine (callsIn_wide (n := 3)).1 ?_
  refine callsIn_of_wp_marks Try.func22 rfl trivial ?_ rfl
  simp only [Try.ntmps22, List.size_toArray, List.length_cons, List.length_nil, Nat.reduceAdd, Nat.reduceSub, Array.replicate_succ, Array.replicate_zero, List.push_toArray, List.append_toArray, List.nil_append, List.cons_append]
  have hq : Int.tdiv (4096 * (m : Int)) 4096 = m := by rw [Int.mul_comm]; exact Int.mul_tdiv_cancel _ (by decide)
  have hq2 : Int.tmod (4096 * (m : Int)) 4096 = 0 := by rw [Int.mul_comm]; exact Int.mul_tmod_left _ _
  have hd1 : decide ((m : Int) < 1) = false := decide_eq_false (by omega)
  have hd2 : decide ((512 : Int) < (m : Int)) = false := decide_eq_false (by omega)
  gi_wp2
  obtain ⟨wA, hA⟩ : ∃ wA, wA = (w.alloc (.cells #[.slice none 0 0, .slice none 0 0, .slice none 0 0, .int .i64 0, .bool false, .bool false, .int .i64 0, .bool false, .int .i64 0] 74)).alloc (.cells #[.pointer (some ⟨w.heap.size, 0, none⟩)] 24) := ⟨_, rfl⟩
  have hz1 : wA.heap[w.heap.size]? = some (.cells (ldRow none 0 0) 74 (0, 0)) := by
    rw [hA]
    exact (Below.heap_alloc _ _ _ (by simp)).trans (heap_alloc_new w _)
  have hz2 : wA.heap[w.heap.size + 1]? = some (.cells #[ptr w.heap.size] 24 (0, 0)) := by
    rw [hA]
    exact row_two w _ _
  have hs1 : wA.heap.size = w.heap.size + 2 := by rw [hA]; simp
  have bA : Below w.heap.size w wA := by rw [hA]; exact ((Below.refl _ w).alloc (Nat.le_refl _) _).alloc (by simp) _
  rw [← hA]
  clear hA
  refine ⟨trivial, ?_⟩
  refine (callsIn_wide.2 (C _ (hr.below bA))).mono ?_
  rintro e w2 ⟨A2, c2, rfl, g2, b2⟩
  obtain ⟨g, rfl, hg1, hg2⟩ := own_adr g2 (by intro e; have := HN.out; rw [e] at this; simp at this; omega)
  gi_wp2
  refine ⟨trivial, ?_⟩
  refine (callsIn_wide.2 (Chunk_any _ g (4096 * m) c2)).mono ?_
  rintro e w3 ⟨rfl, hw3⟩
  have hcap := g2.cap
  rw [HN.out] at hcap
  obtain ⟨cur, hcur, hcl, hct⟩ := g2.row
  have hg1' : w.heap.size + 2 ≤ g := by rw [← hs1]; exact hg1
  have hb2 := b2.size
  have hB3e : w3.heap.size = w2.heap.size + 2 := by rw [hw3]; simp
  obtain ⟨Bs, hBs⟩ : ∃ Bs, Bs = w2.heap.size := ⟨_, rfl⟩
  obtain ⟨Bn, hBn⟩ : ∃ Bn, Bn = w2.heap.size + 1 := ⟨_, rfl⟩
  have b3 : Below w2.heap.size w2 w3 := by rw [hw3]; exact ((Below.refl _ _).alloc (Nat.le_refl _) _).alloc (by simp) _
  have hD2 := (b2.block w.heap.size (by rw [hs1]; omega)).trans hz1
  have hD12 := (b2.block (w.heap.size + 1) (by rw [hs1]; omega)).trans hz2
  have hD3r := (b3.block w.heap.size (heap_in hD2)).trans hD2
  have hD13r := (b3.block (w.heap.size + 1) (heap_in hD12)).trans hD12
  have hcur3 := (b3.block g (heap_in hcur)).trans hcur
  have hs3 : w3.heap[Bs]? = some (.cells #[.slice (some ⟨g, 0, none⟩) (4096 * m) c2] 30 (0, 0)) := by
    rw [hw3, hBs]
    exact (Below.heap_alloc _ _ _ (by simp)).trans (heap_alloc_new w2 _)
  have hn3 : w3.heap[Bn]? = some (.cells #[.int .i64 4096] 3 (0, 0)) := by
    rw [hw3, hBn]
    exact row_two w2 _ _
  rw [← hBn, ← hBs]
  have b03 : Below w.heap.size w w3 := (bA.trans (b2.mono bA.size)).trans (b3.mono (Nat.le_trans bA.size b2.size))
  have hB3 : w.heap.size ≤ w3.heap.size := b03.size
  have hD3 : w.heap.size < w3.heap.size := heap_in hD3r
  have hD13 : w.heap.size + 1 < w3.heap.size := heap_in hD13r
  have hDw : w.heap.size ≤ w.heap.size := Nat.le_refl _
  have hg3 : g < w3.heap.size := heap_in hcur3
  have hgD : g ≠ w.heap.size := by omega
  have hBs3 : Bs < w3.heap.size := heap_in hs3
  have hBn3 : Bn < w3.heap.size := heap_in hn3
  have hBsD : Bs ≠ w.heap.size := by omega
  have hBnD : Bn ≠ w.heap.size := by omega
  have HG2 := hid g2; have HCUR := hid hcur; have HCT := hid hct
  clear C g2 b2 hz1 hz2 hD2 hD12 hcur hct hs1 hw3 hr bA hg1 hg2 hBs hBn hB3e
  gi_wp2
  refine wpIn_rangeFunc_ownF (α := Nat) rfl (by decide) (gf := 62) (lb := #[.pointer (some ⟨Bs, 0, none⟩), .pointer (some ⟨Bn, 0, none⟩)]) rfl trivial (Go.Proofs.enters_of (P := Try.prog) Try.func62 (by kernel_rfl) rfl)
    (encs := fun x => #[chV g x]) (Kp := KpB Bs Bn) (S := fun ys => ys = List.range m) (Sp := fun _ => True) (N := m) (w0 := w3)
    (fun l J Jx W hW hJ hJx hY h0 => chunk1_in 2 (by decide) l Bs Bn g m c2 hcap.1 hcap.2 h2 J Jx _ hJ hY W ((hW.block Bs hBs3).trans hs3) ((hW.block Bn hBn3).trans hn3) h0)
    (fun h k => ⟨k.1.trans h.1, k.2.trans h.2⟩) (fun W l o o' hl _ _ _ => ⟨World.putObj_heap_other (by omega), World.putObj_heap_other (by omega)⟩) (Below.refl _ _) (fun _ => rfl)
    (LdI w w3.heap.size w.heap.size g (.cells cur.toArray 5 (0, 0))) (fun _ _ _ => False) (LdI.own hB3) (fun _ _ _ _ _ hs _ _ => hs)
    ⟨⟨none, 0, hD3r, World.ownsRow_nil _ _ _ _⟩, hD13r, hcur3, Nat.le_refl _, b03⟩
    (fun x => { tmps := #[.slice (some ⟨b, off, none⟩) (4096 * m) c, undef, .pointer none, .int .i64 0, .int .i64 (m : Int), .pointer (some ⟨w.heap.size + 1, 0, none⟩), .slice (some ⟨g, x * 4096, none⟩) 4096 4096, .slice (some ⟨b, off, none⟩) (4096 * m) c, .int .i64 (4096 * (m : Int)), .int .i64 (m : Int), .int .i64 (m : Int), .bool false, .bool false, .int .i64 (m : Int), .bool false, .bool false, .bool false, .slice (some ⟨b, off, none⟩) (4096 * m) c, .int .i64 (4096 * (m : Int)), .int .i64 0, .bool false, .bool false,
      .agg #[.slice none 0 0, .slice none 0 0, .slice none 0 0, .int .i64 0, .bool false, .bool false, .int .i64 0, .bool false, .int .i64 0], .pointer (some ⟨w.heap.size, 0, none⟩), .slice (some ⟨b, off, none⟩) (4096 * m) c, .slice (some ⟨g, 0, none⟩) (4096 * m) c2, .func (.func 62) #[] #[.pointer (some ⟨Bs, 0, none⟩), .pointer (some ⟨Bn, 0, none⟩)], .slice (some ⟨g, x * 4096, none⟩) 4096 4096, undef, undef, undef, undef, undef, undef, undef, undef, undef, undef, undef, undef, undef, undef, undef, undef, undef, undef, undef], defers := [] }) ?assign ?body ?done ?stop
  case assign =>
    intro l x W K hK
    dsimp only [chV]
    gi_wp2
    exact hK
  case body =>
    rintro l pre x W hI hlen
    obtain ⟨A0, c0, hrow, hown⟩ := hI.row
    have hbx : W.cell? ⟨w.heap.size + 1, 0, none⟩ = some (ptr w.heap.size) := by rw [cell_of_row _ _ _ _ _ _ hI.box]; rfl
    have hbxa : ∀ o, (W.alloc o).cell? ⟨w.heap.size + 1, 0, none⟩ = some (ptr w.heap.size) := fun o => cell_below ((Below.refl _ _).alloc (Nat.le_refl _) o) hbx
    have hrow' : W.heap[w.heap.size]? = some (.cells #[.slice A0 pre.length c0, .slice none 0 0, .slice none 0 0, .int .i64 0, .bool false, .bool false, .int .i64 0, .bool false, .int .i64 0] 74 (0, 0)) := hrow
    obtain ⟨y0, -⟩ := nine hrow'
    have y0a : ∀ o, (W.alloc o).cell? ⟨w.heap.size, 0, none⟩ = some (.slice A0 pre.length c0) := fun o => cell_below ((Below.refl _ _).alloc (Nat.le_refl _) o) y0
    have HI := hid hI; have HR := hid hrow; have HO := hid hown
    have hsz3 := hI.size
    clear hI hrow hrow' hown
    unfold ptr at hbx hbxa
    gi_wp2
    refine region_in (S := fun V => V.cell? ⟨w.heap.size + 1, 0, none⟩ = some (.pointer (some ⟨w.heap.size, 0, none⟩))) (by kernel_rfl) (by simp) (by rintro ⟨a, w, h⟩; exact h) hbx (fun hHeld => ?_)
    refine wpAnyH_take (i := 0) (v := ?_) rfl (by kernel_rfl) (by kernel_rfl) (by kernel_rfl) (fun _ _ _ h => h) (Or.inl ⟨by rfl, ?_⟩) (by assumption) ?_
    rotate_left
    · intro w hSw; (try dsimp only at hSw); go_simp; try with_reducible rfl
    try simp only [Act.put, List.setIfInBounds_toArray, List.set_cons_zero, List.set_cons_succ]
    refine wpAnyH_take (i := 1) (v := ?_) rfl (by kernel_rfl) (by kernel_rfl) (by kernel_rfl) (fun _ _ _ h => h) (Or.inl ⟨by rfl, ?_⟩) (by assumption) ?_
    rotate_left
    · intro w hSw; (try dsimp only at hSw); go_simp; try with_reducible rfl
    try simp only [Act.put, List.setIfInBounds_toArray, List.set_cons_zero, List.set_cons_succ]
    refine wpAnyH_take (i := 2) (v := ?_) rfl (by kernel_rfl) (by kernel_rfl) (by kernel_rfl) (fun _ _ _ h => h) (Or.inl ⟨by rfl, ?_⟩) (by assumption) ?_
    rotate_left
    · intro w hSw; (try dsimp only at hSw); go_simp; try with_reducible rfl
    try simp only [Act.put, List.setIfInBounds_toArray, List.set_cons_zero, List.set_cons_succ]
    refine wpAnyH_take (i := 3) (v := ?_) rfl (by kernel_rfl) (by kernel_rfl) (by kernel_rfl) (fun _ _ _ h => h) (Or.inl ⟨by rfl, ?_⟩) (by assumption) ?_
    rotate_left
    · intro w hSw; (try dsimp only at hSw); go_simp; try with_reducible rfl
    try simp only [Act.put, List.setIfInBounds_toArray, List.set_cons_zero, List.set_cons_succ]
    refine wpAnyH_take (i := 5) (v := ?_) rfl (by kernel_rfl) (by kernel_rfl) (by kernel_rfl) (fun _ _ _ h => h) (Or.inl ⟨by rfl, ?_⟩) (by assumption) ?_
    rotate_left
    · intro w hSw; (try dsimp only at hSw); go_simp; try with_reducible rfl
    try simp only [Act.put, List.setIfInBounds_toArray, List.set_cons_zero, List.set_cons_succ]
    refine wpAnyH_ready (rs := [4, 6]) (by kernel_rfl) (by simp) ?_
    refine AllReadyH.cons rfl (fun K hK => ?_) (AllReadyH.cons rfl (fun K hK => ?_) AllReadyH.nil)
    · go_simp
      refine hK.out _ _ ?_ (fun hHeld => ?_)
      · exact hbx
      clear hK K
      try simp only [Act.put, List.setIfInBounds_toArray, List.set_cons_zero, List.set_cons_succ]
      refine wpAnyH_ready (rs := [6]) (by kernel_rfl) (by simp) ?_
      refine AllReadyH.cons rfl (fun K hK => ?_) AllReadyH.nil
      go_simp
      refine hK.out _ _ ?_ (fun hHeld => ?_)
      · exact hbxa _
      clear hK K
      try simp only [Act.put, List.setIfInBounds_toArray, List.set_cons_zero, List.set_cons_succ]
      refine wpAnyH_ready (rs := [7]) (by kernel_rfl) (by simp) ?_
      refine AllReadyH.cons rfl (fun K hK => ?_) AllReadyH.nil
      refine step_own2 rfl (.tmp 32) (.tmp 34) 33 30 (.slice none 0 0) 1 24 rfl Try.underlying33 info_L rfl (by decide) (by decide) w3.heap.size _ pre.length (pre.map (chV g)) rfl (own_below HO.out (below_new' W _)) (some ⟨W.heap.size, 0, none⟩) 1 1 [.slice (some ⟨g, x * 4096, none⟩) 4096 4096] rfl rfl (RdV.new W.drew #[.slice (some ⟨g, x * 4096, none⟩) 4096 4096] _) (by intro u hu; simp at hu; subst hu; rfl) (by omega) (Nat.le_trans hsz3 (below_new' W _).size) ?_
      intro A5 c5 w5 h5 h6
      have M := ld_mem (w := w) (Bs := Bs) (Bn := Bn) (x := x) hB3 HI.out hD3 hDw hD13 hg3 hgD hBs3 hBn3 hBsD hBnD HR.out HO.out h5 h6
      obtain ⟨m1, m2, m3, m4⟩ := M
      have m1' : w5.heap[w.heap.size]? = some (.cells #[.slice A0 pre.length c0, .slice none 0 0, .slice none 0 0, .int .i64 0, .bool false, .bool false, .int .i64 0, .bool false, .int .i64 0] 74 (0, 0)) := m1
      obtain ⟨z0, -⟩ := nine m1'
      have zf := frow m1' 0
      have bx5 : w5.cell? ⟨w.heap.size + 1, 0, none⟩ = some (.pointer (some ⟨w.heap.size, 0, none⟩)) := by
        have e := m4.box
        rw [heap_setCell_other _ _ _ _ (show w.heap.size + 1 ≠ w.heap.size by omega)] at e
        rw [cell_of_row _ _ _ _ _ _ e]
        rfl
      refine hK.out _ _ bx5 (fun hHeld => ?_)
      clear hK K
      try simp only [Act.put, List.setIfInBounds_toArray, List.set_cons_zero, List.set_cons_succ]
      refine wpAnyH_take (i := 8) (v := ?_) rfl (by kernel_rfl) (by kernel_rfl) (by kernel_rfl) (fun _ _ _ h => h) (Or.inl ⟨by rfl, ?_⟩) (by assumption) ?_
      rotate_left
      · intro w hSw; (try dsimp only at hSw); go_simp; try with_reducible rfl
      try simp only [Act.put, List.setIfInBounds_toArray, List.set_cons_zero, List.set_cons_succ]
      refine wpAnyH_take (i := 9) (v := ?_) rfl (by kernel_rfl) (by kernel_rfl) (by kernel_rfl) (fun _ _ _ h => h) (Or.inl ⟨by rfl, ?_⟩) (by assumption) ?_
      rotate_left
      · intro w hSw; (try dsimp only at hSw); go_simp; try with_reducible rfl
      try simp only [Act.put, List.setIfInBounds_toArray, List.set_cons_zero, List.set_cons_succ]
      refine wpAnyH_ready (rs := [10]) (by kernel_rfl) (by simp) ?_
      refine AllReadyH.cons rfl (fun K hK => ?_) AllReadyH.nil
      go_simp
      refine hK.out _ _ ?_ (fun hHeld => ?_)
      · exact cell_far (by simp) bx5
      clear hK K
      try simp only [Act.put, List.setIfInBounds_toArray, List.set_cons_zero, List.set_cons_succ]
      refine wpAnyH_done (by kernel_rfl) ?_ _
      exact ⟨m2, m3, m4⟩
    · go_simp
      refine hK.out _ _ ?_ (fun hHeld => ?_)
      · exact hbxa _
      clear hK K
      try simp only [Act.put, List.setIfInBounds_toArray, List.set_cons_zero, List.set_cons_succ]
      refine wpAnyH_ready (rs := [4]) (by kernel_rfl) (by simp) ?_
      refine AllReadyH.cons rfl (fun K hK => ?_) AllReadyH.nil
      go_simp
      refine hK.out _ _ ?_ (fun hHeld => ?_)
      · exact hbxa _
      clear hK K
      try simp only [Act.put, List.setIfInBounds_toArray, List.set_cons_zero, List.set_cons_succ]
      refine wpAnyH_ready (rs := [7]) (by kernel_rfl) (by simp) ?_
      refine AllReadyH.cons rfl (fun K hK => ?_) AllReadyH.nil
      refine step_own2 rfl (.tmp 32) (.tmp 34) 33 30 (.slice none 0 0) 1 24 rfl Try.underlying33 info_L rfl (by decide) (by decide) w3.heap.size _ pre.length (pre.map (chV g)) rfl (own_below HO.out (below_new' W _)) (some ⟨W.heap.size, 0, none⟩) 1 1 [.slice (some ⟨g, x * 4096, none⟩) 4096 4096] rfl rfl (RdV.new W.drew #[.slice (some ⟨g, x * 4096, none⟩) 4096 4096] _) (by intro u hu; simp at hu; subst hu; rfl) (by omega) (Nat.le_trans hsz3 (below_new' W _).size) ?_
      intro A5 c5 w5 h5 h6
      have M := ld_mem (w := w) (Bs := Bs) (Bn := Bn) (x := x) hB3 HI.out hD3 hDw hD13 hg3 hgD hBs3 hBn3 hBsD hBnD HR.out HO.out h5 h6
      obtain ⟨m1, m2, m3, m4⟩ := M
      have m1' : w5.heap[w.heap.size]? = some (.cells #[.slice A0 pre.length c0, .slice none 0 0, .slice none 0 0, .int .i64 0, .bool false, .bool false, .int .i64 0, .bool false, .int .i64 0] 74 (0, 0)) := m1
      obtain ⟨z0, -⟩ := nine m1'
      have zf := frow m1' 0
      have bx5 : w5.cell? ⟨w.heap.size + 1, 0, none⟩ = some (.pointer (some ⟨w.heap.size, 0, none⟩)) := by
        have e := m4.box
        rw [heap_setCell_other _ _ _ _ (show w.heap.size + 1 ≠ w.heap.size by omega)] at e
        rw [cell_of_row _ _ _ _ _ _ e]
        rfl
      refine hK.out _ _ bx5 (fun hHeld => ?_)
      clear hK K
      try simp only [Act.put, List.setIfInBounds_toArray, List.set_cons_zero, List.set_cons_succ]
      refine wpAnyH_take (i := 8) (v := ?_) rfl (by kernel_rfl) (by kernel_rfl) (by kernel_rfl) (fun _ _ _ h => h) (Or.inl ⟨by rfl, ?_⟩) (by assumption) ?_
      rotate_left
      · intro w hSw; (try dsimp only at hSw); go_simp; try with_reducible rfl
      try simp only [Act.put, List.setIfInBounds_toArray, List.set_cons_zero, List.set_cons_succ]
      refine wpAnyH_take (i := 9) (v := ?_) rfl (by kernel_rfl) (by kernel_rfl) (by kernel_rfl) (fun _ _ _ h => h) (Or.inl ⟨by rfl, ?_⟩) (by assumption) ?_
      rotate_left
      · intro w hSw; (try dsimp only at hSw); go_simp; try with_reducible rfl
      try simp only [Act.put, List.setIfInBounds_toArray, List.set_cons_zero, List.set_cons_succ]
      refine wpAnyH_ready (rs := [10]) (by kernel_rfl) (by simp) ?_
      refine AllReadyH.cons rfl (fun K hK => ?_) AllReadyH.nil
      go_simp
      refine hK.out _ _ ?_ (fun hHeld => ?_)
      · exact cell_far (by simp) bx5
      clear hK K
      try simp only [Act.put, List.setIfInBounds_toArray, List.set_cons_zero, List.set_cons_succ]
      refine wpAnyH_done (by kernel_rfl) ?_ _
      exact ⟨m2, m3, m4⟩
  case done =>
    rintro Dd ys W hDd hys hI hK
    obtain rfl : ys = List.range m := hys
    obtain ⟨A0, c0, hrow, hown⟩ := hI.row
    rw [List.length_range] at hrow hown
    obtain ⟨gs, c0', hx0, hgs1, hgs2⟩ := own_slice' hown (by omega) (by decide)
    simp only [Value.slice.injEq, true_and] at hx0
    obtain ⟨rfl, rfl⟩ := hx0
    have hdat : Dats (fun b => w.heap.size ≤ b) W ((List.range m).map (chV g)) (chunks img m) := chunk_dats hI.img HCT.out HN.out (by show w.heap.size ≤ g; omega)
    have hbx : W.cell? ⟨w.heap.size + 1, 0, none⟩ = some (.pointer (some ⟨w.heap.size, 0, none⟩)) := by rw [cell_of_row _ _ _ _ _ _ hI.box]; rfl
    have hrow' : W.heap[w.heap.size]? = some (.cells #[.slice (some ⟨gs, 0, none⟩) m c0, .slice none 0 0, .slice none 0 0, .int .i64 0, .bool false, .bool false, .int .i64 0, .bool false, .int .i64 0] 74 (0, 0)) := hrow
    obtain ⟨y0, -⟩ := nine hrow'
    have sv : W.cell? ⟨w.heap.size + 1, 0, none⟩ = some (.pointer (some ⟨w.heap.size, 0, none⟩)) ∧ W.cell? ⟨w.heap.size, 0, none⟩ = some (.slice (some ⟨gs, 0, none⟩) m c0) := ⟨hbx, y0⟩
    have svd : W.drew.cell? ⟨w.heap.size + 1, 0, none⟩ = some (.pointer (some ⟨w.heap.size, 0, none⟩)) ∧ W.drew.cell? ⟨w.heap.size, 0, none⟩ = some (.slice (some ⟨gs, 0, none⟩) m c0) := sv
    have C := CloneL_any W.drew gs 0 c0 m ((List.range m).map (chV g)) (by simp) (by omega) (RdV.own hown) (one_dats hdat)
    have HI := hid hI; have HR := hid hrow'; have HO := hid hown; have HD := hid hdat; have HKK := hid hK
    clear hI hrow hrow' hown hdat hK y0 hbx
    gi_wp2
    refine wpIn_wide.2 ?_
    go_region_held3 (fun V => V.cell? ⟨w.heap.size + 1, 0, none⟩ = some (.pointer (some ⟨w.heap.size, 0, none⟩)) ∧ V.cell? ⟨w.heap.size, 0, none⟩ = some (.slice (some ⟨gs, 0, none⟩) m c0))
      (first | (with_reducible exact s2 _) | (with_reducible exact s1) | (with_reducible exact svd) | (with_reducible exact sv))
      (first | (go_at_call 39; refine C.mono ?_; rintro e w6 ⟨A6, c6, rfl, g6, b6⟩; have hr6 := (b6.block w.heap.size (heap_in HR.out)).trans HR.out; have hx6 := (b6.block (w.heap.size + 1) (heap_in HI.out.box)).trans HI.out.box; obtain ⟨s10, z1, -⟩ := nine hr6; have zf := frow hr6 1; have s1 : w6.cell? ⟨w.heap.size + 1, 0, none⟩ = some (.pointer (some ⟨w.heap.size, 0, none⟩)) ∧ w6.cell? ⟨w.heap.size, 0, none⟩ = some (.slice (some ⟨gs, 0, none⟩) m c0) := ⟨by rw [cell_of_row _ _ _ _ _ _ hx6]; rfl, s10⟩; have s2 := ld_s2 s1 hr6; have HR6 := hid hr6; have HX6 := hid hx6; have G6 := hid g6; clear hr6 hx6 g6))
    all_goals
      have HF := ld_end (w := w) (W := W) (L := chunks img m) (Nat.le_trans hB3 HI.out.size) hB3 HI.out.below b6 HR6.out HO.out G6.out HD.out (by simp [chunks]) h1 h2 (chunks_4 HN.out) hgs2 (HKK.out) (Nat.lt_of_lt_of_le hD3 hDd)
      obtain ⟨A6', rfl⟩ : ∃ g6, A6 = some ⟨g6, 0, none⟩ := HF.1
      obtain ⟨-, HF1⟩ := HF
      obtain ⟨S', hF, hB, hK8⟩ := HF1 _ rfl
      have hbx8 : (w6.setCell ⟨w.heap.size, 1, none⟩ (.slice (some ⟨A6', 0, none⟩) m c6)).cell? ⟨w.heap.size + 1, 0, none⟩ = some (.pointer (some ⟨w.heap.size, 0, none⟩)) := (s2 _).1
      have H1 := hid hF; have H2 := hid hB; have H3 := hid hK8
      clear hF hB hK8 C s1 s2 z1 zf s10 sv svd
      gi_wp2
      refine ⟨by simp, .inl ⟨_, _, rfl, run_takeDeferred H3.out, ?_⟩⟩
      exact ⟨.tuple #[ptr w.heap.size, .int .i64 0], by simp [results, Try.results22, go_sem, ptr], w.heap.size, S', rfl, H1.out, H2.out⟩
  case stop =>
    rintro D c pre W _ _ h _
    exact h.elim
end Go.Proofs.Ytddejjmebokgiaa
