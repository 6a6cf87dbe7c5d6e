/- slices.Insert and slices.Delete on extents of the call's own: the walks. -/
import Derived.Test.YtahlhdhljjpeoaaExB
namespace Go.Proofs.Ytahlhdhljjpeoaa
open Go.RowKit
set_option maxHeartbeats 3200000
set_option maxRecDepth 100000
set_option linter.unusedVariables false
set_option linter.unusedSimpArgs false

theorem Insert_end (base : Nat) (w : World) (A : Option Addr) (c N : Nat) (l : List Ext) (hN : N = l.length) (hN2 : N ≤ 1000000) (ho : OwnX base w A c l) (hbase : base ≤ w.heap.size) (vb vc : Nat) (x : Ext) (hx : RdX w (some ⟨vb, 0, none⟩) [x]) :
    Calls Try.prog 50 #[.slice A N c, .int .i64 (N : Int), .slice (some ⟨vb, 0, none⟩) 1 vc] w fun e w' => ∃ A' c', e = .returned (.slice A' (N + 1) c') ∧ OwnX base w' A' c' (l ++ [x]) ∧ Below base w w' := by
  subst hN
  have hcap := own_cap ho
  simp only [maxLen] at hcap
  obtain ⟨hc1, hc2⟩ := hcap
  have hb0 : Below base w w := Below.refl _ _
  cases A with
  | none =>
    have e : l = [] := by
      have := ho.2
      rcases this with ⟨hv, h0⟩ | ⟨g, cap, cur, hv, _⟩
      · simp only [Value.slice.injEq, true_and] at hv
        exact List.eq_nil_of_length_eq_zero h0
      · simp at hv
    subst e
    have e2 : c = 0 := by
      rcases ho.2 with ⟨hv, h0⟩ | ⟨g, cap, cur, hv, _⟩
      · simpa using hv
      · simp at hv
    subst e2
    go_enter Try.func50, Try.ntmps50
    go_wp2_with (at_builtin; refine app_ext rfl (.tmp 23) (.tmp 24) rfl base none 0 0 [] rfl rfl ho (some ⟨vb, 0, none⟩) 1 vc [x] rfl rfl hx 1 rfl (by simp) w hb0 hbase ?_; intro A1 c1 w1 ho1 hb1)
    go_ret
    exact ⟨A1, c1, rfl, ho1, hb1⟩
  | some ad =>
    by_cases hcN : c = l.length
    all_goals
      have HC := hid hcN
      go_enter Try.func50, Try.ntmps50
      go_wp2_with (at_builtin; refine app_ext rfl (.tmp 23) (.tmp 24) rfl base (some ad) _ l.length l rfl rfl ho (some ⟨vb, 0, none⟩) 1 vc [x] rfl rfl hx (l.length + 1) rfl (by simp; omega) w hb0 hbase ?_; intro A1 c1 w1 ho1 hb1)
      go_ret
      exact ⟨A1, c1, rfl, ho1, hb1⟩
def cap_size (cur : List Value) : Nat := cur.toArray.size
theorem shape_of {w : World} {g : Nat} {cs : Array Value} {t : TypeId} {f : Nat × Nat} (h : w.heap[g]? = some (.cells cs t f)) : w.shape? g = some (t, cs.size) := by simp [World.shape?, h]
theorem cells_len (x : Ext) : x.cells.length = 3 := rfl
theorem min_one (n : Nat) (h : 0 < n) : Nat.min 1 n = 1 := Nat.min_eq_left h
theorem Insert_grow (base : Nat) (w : World) (g c N i : Nat) (l : List Ext) (hN : N = l.length) (hN2 : N ≤ 1000000) (hi : i < N) (hroom : c < N + 1) (ho : OwnX base w (some ⟨g, 0, none⟩) c l) (hbase : base ≤ w.heap.size) (vb vc : Nat) (x : Ext) (hx : RdX w (some ⟨vb, 0, none⟩) [x]) :
    Calls Try.prog 50 #[.slice (some ⟨g, 0, none⟩) N c, .int .i64 (i : Int), .slice (some ⟨vb, 0, none⟩) 1 vc] w fun e w' => ∃ A' c', e = .returned (.slice A' (N + 1) c') ∧ OwnX base w' A' c' (l.take i ++ x :: l.drop i) ∧ Below base w w' := by
  subst hN
  have hcap := own_cap ho
  simp only [maxLen] at hcap
  obtain ⟨hc1, hc2⟩ := hcap
  have hb0 : Below base w w := Below.refl _ _
  obtain ⟨hgb, cur, hrow⟩ := ho.row
  have hgl := heap_inX hrow.row
  obtain ⟨n, hn⟩ : ∃ n, n = l.length := ⟨_, rfl⟩
  have HN := hid hn
  obtain ⟨k, hk⟩ : ∃ k, k = n + 1 - i := ⟨_, rfl⟩
  have ht1 : (l.take i).length = i := by rw [List.length_take]; omega
  have ht2 : (l.drop i).length = n - i := by rw [List.length_drop]; omega
  have hT1 : (extCells (l.take i)).length = i * 3 := by rw [extCells_length, ht1]; omega
  have hT2 : (extCells (l.drop i)).length = (n - i) * 3 := by rw [extCells_length, ht2]; omega
  have hcell : ∀ (j : Nat) (u : Value), (extCells (l.take i))[j]? = some u → w.cell? ⟨g, j, none⟩ = some u := by
    intro j u hu
    refine hrow.cell j u ?_
    have hj : j < (extCells (l.take i)).length := (List.getElem?_eq_some_iff.1 hu).1
    rw [extCells_length, List.length_take] at hj
    rw [extCells_take l i (by omega), ← hrow.pre, List.getElem?_take, if_pos (by omega), List.getElem?_take, if_pos (by omega)] at hu
    exact hu
  have hsub : (n : Int) + 1 - (i : Int) = (k : Int) := by omega
  have hdrop := hrow.at_drop i (by omega)
  have hxc : ∀ (j : Nat) (u : Value), x.cells[j]? = some u → w.cell? ⟨vb, 0 + j, none⟩ = some u := by
    intro j u hu
    obtain ⟨b, off, e, hc⟩ := hx (by simp [extCells, Ext.cells])
    cases e
    exact hc j u (by simpa [extCells] using hu)
  rw [← hn] at hi hroom hN2 hc1 ⊢
  obtain ⟨X1, hX1⟩ : ∃ X, X = extCells (l.take i) := ⟨_, rfl⟩
  obtain ⟨X2, hX2⟩ : ∃ X, X = extCells (l.drop i) := ⟨_, rfl⟩
  have HT1 := hid ht1; have HT2 := hid ht2; have HX1 := hid hX1; have HX2 := hid hX2
  rw [← hX1] at hT1
  rw [← hX2] at hT2 hdrop
  have h1X2 : ∀ v ∈ X2, v.oneCell' = true := by rw [hX2]; exact extCells_one _
  have h1x : ∀ v ∈ x.cells, v.oneCell' = true := by intro v hv; simp [Ext.cells] at hv; rcases hv with rfl | rfl | rfl <;> rfl
  have HT1' := hid hT1; have HT2' := hid hT2; have HD := hid hdrop; have HC := hid hcell; have HXC := hid hxc; have H1 := hid h1X2; have H2 := hid h1x; have HS := hid hsub
  have hik : i + k = n + 1 := by omega
  have hk0 : 0 < k := by omega
  have HK := hid hk
  clear hn ht1 ht2 hT1 hT2 hdrop hcell hxc h1X2 h1x hrow ho hX1 hX2 hk hsub
  have HIK := hid hik
  clear hik
  have hki : (k : Int) = (n : Int) + 1 - (i : Int) := by have := HS.out; omega
  have HKI := hid hki
  clear hki
  go_enter Try.func50, Try.ntmps50
  go_wp2_with (first
    | (with_reducible refine copyX rfl (.tmp 43) (.tmp 44) rfl w.heap.size (i * 3) k (cap - i) rfl vb 0 1 vc rfl (extCells (l.take i) ++ Z) H1R.out x.cells (by rw [min_one _ (by omega), cells_len]) (fun j u hu => cell_below H5.out (HXC.out j u hu)) (by rw [H4.out, cells_len]; omega) H2.out ?_; intro w2 hw2; have H2W := hid hw2; have hci1 : i + 1 < cap := (by have := HIK.out; omega); clear hw2)
    | (at_builtin; refine appX_zeros rfl (.tmp 34) (.tmp 39) rfl g i c (l.take i) rfl HT1.out.symm HC.out k (congrArg (Value.int .i64) HKI.out.symm) hk0 (by have := HIK.out; omega) (by have := HIK.out; omega) ?_; intro cap Z w1 h1 h2 h3 h4 h5 h6; have hci : i < cap := (by omega); have hcm : cap ≤ 9223372036854775807 := (by simp only [maxLen] at h3; omega); have H1R := hid h1; have H4 := hid h4; have H5 := hid h5; have H3 := hid h3; clear h1 h4 h5 h3))
  have hs1 : IntKind.i64.wrap ((i : Int) + 1) = (i : Int) + 1 := IntWalk.i64_in _ (by omega)
  have hs2 : (0 : Int) ≤ (i : Int) + 1 := by omega
  have hs3 : ((i : Int) + 1).toNat = i + 1 := by omega
  have hs4 : (i : Int) + 1 ≤ (i : Int) + (k : Int) := by have := HIK.out; omega
  have hs5 : ¬ cap = i + 1 := by omega
  have hs6 : i ≤ n := by omega
  have hs7 : ¬ c = i := by omega
  obtain ⟨CUR, hCUR⟩ : ∃ CUR, CUR = (extCells (l.take i) ++ Z).take (i * 3) ++ x.cells ++ (extCells (l.take i) ++ Z).drop (i * 3 + x.cells.length) := ⟨_, rfl⟩
  have hT := HT1'.out
  have hX := HX1.out
  rw [hX] at hT
  have hZ := H4.out
  rw [List.length_append, hT] at hZ
  have hCl : CUR.length = cap * 3 := by
    rw [hCUR]
    simp only [List.length_append, List.length_take, List.length_drop, hT, cells_len]
    omega
  have hC1 : CUR.take (i * 3 + 3) = extCells (l.take i) ++ x.cells := by
    have e1 : (extCells (l.take i) ++ Z).take (i * 3) = extCells (l.take i) := by rw [← hT, List.take_left]
    rw [hCUR, e1, List.take_append_of_le_length (by rw [List.length_append, hT, cells_len]; exact Nat.le_refl _), List.take_of_length_le (by rw [List.length_append, hT, cells_len]; exact Nat.le_refl _)]
  have hrow2 : w2.heap[w.heap.size]? = some (.cells CUR.toArray 24 (0, 0)) := by
    rw [H2W.out, hCUR]
    exact setRow_is H1R.out
  have hb2 : Below w.heap.size w w2 := by
    rw [H2W.out]
    exact setRow_below H5.out (Nat.le_refl _) _
  have hsrc : ∀ (j : Nat) (u : Value), X2[j]? = some u → w2.drew.cell? ⟨g, i * 3 + j, none⟩ = some u := fun j u hu => cell_below (below_drewN2 hb2 1) (HD.out j u hu)
  have hmn : X2.length = Nat.min (n - i) (i + k - (i + 1)) * 3 := by rw [HT2'.out, show Nat.min (n - i) (i + k - (i + 1)) = n - i from Nat.min_eq_left (by have := HIK.out; omega)]
  have hft : (i + 1) * 3 + X2.length ≤ CUR.length := by rw [hCl, HT2'.out]; have := HIK.out; omega
  have HSRC := hid hsrc; have HMN := hid hmn; have HFT := hid hft
  have ROW2 := hid (show w2.drew.heap[w.heap.size]? = some (.cells CUR.toArray 24 (0, 0)) from hrow2); have HB2 := hid hb2; have HCL := hid hCl; have HC1 := hid hC1
  clear hrow2 hb2 hCl hC1 hCUR hT hX hZ
  obtain ⟨w3, hw3⟩ : ∃ w3, w3 = w2.drew.setRow w.heap.size (CUR.take ((i + 1) * 3) ++ X2 ++ CUR.drop ((i + 1) * 3 + X2.length)).toArray := ⟨_, rfl⟩
  have hrun := run_copyX w2.drew w.heap.size ((i + 1) * 3) (i + k - (i + 1)) (cap - (i + 1)) g (i * 3) (n - i) (c - i) CUR ROW2.out X2 hmn hsrc hft H1.out
  rw [← hw3] at hrun
  have H3W := hid hw3
  clear hsrc hmn hft hw3
  go_region_law (fail)
  go_wp2
  go_ret
  have hr3 : w3.heap[w.heap.size]? = some (.cells (CUR.take ((i + 1) * 3) ++ X2 ++ CUR.drop ((i + 1) * 3 + X2.length)).toArray 24 (0, 0)) := by
    rw [H3W.out]
    exact setRow_is ROW2.out
  have hb3 : Below w.heap.size w w3 := by
    rw [H3W.out]
    exact setRow_below (below_drewN2 HB2.out 1) (Nat.le_refl _) _
  have hik := HIK.out
  have hl3 : (l.take i ++ x :: l.drop i).length = n + 1 := by rw [List.length_append, List.length_cons, HT1.out, HT2.out]; omega
  have hr : RowX w3 w.heap.size cap (CUR.take ((i + 1) * 3) ++ X2 ++ CUR.drop ((i + 1) * 3 + X2.length)) (l.take i ++ x :: l.drop i) := by
    refine ⟨hr3, ?_, ?_, by omega, H3.out⟩
    · simp only [List.length_append, List.length_take, List.length_drop, HCL.out, HT2'.out]
      omega
    · rw [hl3, extCells_append, extCells, ← HX2.out, List.take_append_of_le_length (by simp only [List.length_append, List.length_take, HCL.out, HT2'.out]; omega), List.take_of_length_le (by simp only [List.length_append, List.length_take, HCL.out, HT2'.out]; omega), show (i + 1) * 3 = i * 3 + 3 by omega, HC1.out, List.append_assoc]
  refine ⟨some ⟨w.heap.size, 0, none⟩, cap, ?_, hr.own hbase, hb3.mono hbase⟩
  show Ending.returned (Value.slice (some ⟨w.heap.size, 0, none⟩) (i + k) cap) = _
  rw [hik]
theorem Insert_room (base : Nat) (w : World) (g c N i : Nat) (l : List Ext) (hN : N = l.length) (hN2 : N ≤ 1000000) (hi : i < N) (hroom : N + 1 ≤ c) (ho : OwnX base w (some ⟨g, 0, none⟩) c l) (vb vc : Nat) (x : Ext) (hx : w.heap[vb]? = some (.cells x.cells.toArray 24 (0, 0))) (hvg : vb ≠ g) :
    Calls Try.prog 50 #[.slice (some ⟨g, 0, none⟩) N c, .int .i64 (i : Int), .slice (some ⟨vb, 0, none⟩) 1 vc] w fun e w' => ∃ A' c', e = .returned (.slice A' (N + 1) c') ∧ OwnX base w' A' c' (l.take i ++ x :: l.drop i) ∧ Below base w w' := by
  subst hN
  have hcap := own_cap ho
  simp only [maxLen] at hcap
  obtain ⟨hc1, hc2⟩ := hcap
  obtain ⟨hgb, cur, hrow⟩ := ho.row
  obtain ⟨n, hn⟩ : ∃ n, n = l.length := ⟨_, rfl⟩
  have HN := hid hn
  have ht1 : (l.take i).length = i := by rw [List.length_take]; omega
  have ht2 : (l.drop i).length = n - i := by rw [List.length_drop]; omega
  have hT1 : (extCells (l.take i)).length = i * 3 := by rw [extCells_length, ht1]; omega
  have hT2 : (extCells (l.drop i)).length = (n - i) * 3 := by rw [extCells_length, ht2]; omega
  have hcl := hrow.len
  have hdrop := hrow.at_drop i (by omega)
  have hpre : cur.take (i * 3) = extCells (l.take i) := by rw [extCells_take l i (by omega), ← hrow.pre, List.take_take, Nat.min_eq_left (by omega)]
  obtain ⟨X2, hX2⟩ : ∃ X, X = extCells (l.drop i) := ⟨_, rfl⟩
  rw [← hX2] at hT2 hdrop
  have h1X2 : ∀ v ∈ X2, v.oneCell' = true := by rw [hX2]; exact extCells_one _
  have h1x : ∀ v ∈ x.cells, v.oneCell' = true := by intro v hv; simp [Ext.cells] at hv; rcases hv with rfl | rfl | rfl <;> rfl
  rw [← hn] at hi hroom hN2 hc1 ⊢
  have hsz : ∀ w, (Go.sizeOf 24).run Try.prog w = .ok 3 w := by
    intro w
    obtain ⟨i0, hi0, hz0, hz1, hz2⟩ := info_parts info_ext
    simp [Go.sizeOf, typeInfo, hi0, hz1]
  have hov : ∀ lb cb, (callFunc 91 #[.slice (some ⟨vb, 0, none⟩) 1 vc, .slice (some ⟨g, (i + 1) * 3, none⟩) lb cb]).run Try.prog w = .ok (.value (.bool false)) w := fun lb cb => by
    rw [run_callFunc_extern Try.func91 (by kernel_rfl) (by kernel_rfl) (by kernel_rfl) (e := Extern.SlicesOverlaps.overlaps #[22, 22] #[4]) (by kernel_rfl),
      Lib.run_overlaps_apart w 22 4 24 Try.underlying22 3 hsz ⟨vb, 0, none⟩ ⟨g, (i + 1) * 3, none⟩ 1 vc lb cb hvg 24 24 3 (cap_size cur) (shape_of hx) (shape_of hrow.row) (by unfold cap_size; simp only [List.size_toArray]; omega) (frozen_of_row _ _ _ _ _ hx) (frozen_of_row _ _ _ _ _ hx)]
    rfl
  have hxc : ∀ (W : World), W.heap[vb]? = some (.cells x.cells.toArray 24 (0, 0)) → ∀ (j : Nat) (u : Value), x.cells[j]? = some u → W.cell? ⟨vb, 0 + j, none⟩ = some u := by
    intro W hW j u hu
    rw [Nat.zero_add, cell_of_row _ _ _ _ _ _ hW]
    simpa using hu
  -- the first copy: what stands from i on, one place further
  have hmn : X2.length = Nat.min (n + 1 - i) (n - i) * 3 := by rw [hT2, show Nat.min (n + 1 - i) (n - i) = n - i from Nat.min_eq_right (by omega)]
  have hft : (i + 1) * 3 + X2.length ≤ cur.length := by rw [hcl, hT2]; omega
  have hrowd : w.drew.heap[g]? = some (.cells cur.toArray 24 (0, 0)) := hrow.row
  have hdropd : ∀ (j : Nat) (u : Value), X2[j]? = some u → w.drew.cell? ⟨g, i * 3 + j, none⟩ = some u := hdrop
  obtain ⟨C1, hC1⟩ : ∃ C1, C1 = cur.take ((i + 1) * 3) ++ X2 ++ cur.drop ((i + 1) * 3 + X2.length) := ⟨_, rfl⟩
  have hrun := run_copyX w.drew g ((i + 1) * 3) (n - i) (c - (i + 1)) g (i * 3) (n + 1 - i) (c - i) cur hrowd X2 hmn hdropd hft h1X2
  rw [← hC1] at hrun
  obtain ⟨w2, hw2⟩ : ∃ w2, w2 = w.drew.setRow g C1.toArray := ⟨_, rfl⟩
  rw [← hw2] at hrun
  have hr2 : w2.heap[g]? = some (.cells C1.toArray 24 (0, 0)) := by rw [hw2]; exact setRow_is hrowd
  have hxr2 : w2.heap[vb]? = some (.cells x.cells.toArray 24 (0, 0)) := by
    rw [hw2]
    exact (setRow_other w.drew g vb C1.toArray hvg).trans hx
  have hC1l : C1.length = c * 3 := by
    rw [hC1]
    simp only [List.length_append, List.length_take, List.length_drop, hcl, hT2]
    omega
  have hb2 : Below base w w2 := by
    rw [hw2]
    exact setRow_below (below_drewN2 (Below.refl _ _) 1) hgb _
  -- the second copy: the one, in its place
  have hrun2 := run_copyX w2 g (i * 3) (n + 1 - i) (c - i) vb 0 1 vc C1 hr2 x.cells (by rw [min_one _ (by omega), cells_len]) (hxc w2 hxr2) (by rw [hC1l, cells_len]; omega) h1x
  obtain ⟨C2, hC2⟩ : ∃ C2, C2 = C1.take (i * 3) ++ x.cells ++ C1.drop (i * 3 + x.cells.length) := ⟨_, rfl⟩
  rw [← hC2] at hrun2
  obtain ⟨w3, hw3⟩ : ∃ w3, w3 = w2.setRow g C2.toArray := ⟨_, rfl⟩
  rw [← hw3] at hrun2
  have hr3 : w3.heap[g]? = some (.cells C2.toArray 24 (0, 0)) := by rw [hw3]; exact setRow_is hr2
  have hb3 : Below base w w3 := by
    rw [hw3]
    exact setRow_below hb2 hgb _
  have hC2p : C2.take ((n + 1) * 3) = extCells (l.take i) ++ x.cells ++ X2 := by
    have e1 : C1.take (i * 3) = extCells (l.take i) := by
      rw [hC1, List.append_assoc, List.take_append_of_le_length (by rw [List.length_take]; omega), List.take_take, Nat.min_eq_left (by omega), hpre]
    have e2 : C1.drop (i * 3 + x.cells.length) = X2 ++ cur.drop ((i + 1) * 3 + X2.length) := by
      rw [cells_len, hC1, List.append_assoc, List.drop_append_of_le_length (by rw [List.length_take]; omega), List.drop_of_length_le (by rw [List.length_take]; omega), List.nil_append]
    have e3 : (extCells (l.take i) ++ x.cells ++ X2).length = (n + 1) * 3 := by
      rw [List.length_append, List.length_append, hT1, cells_len, hT2]
      omega
    rw [hC2, e1, e2, ← List.append_assoc, ← e3, List.take_left]
  have hC2l : C2.length = c * 3 := by
    rw [hC2]
    simp only [List.length_append, List.length_take, List.length_drop, hC1l, cells_len]
    omega
  have hlen : (l.take i ++ x :: l.drop i).length = n + 1 := by rw [List.length_append, List.length_cons, ht1, ht2]; omega
  have hown : OwnX base w3 (some ⟨g, 0, none⟩) c (l.take i ++ x :: l.drop i) :=
    RowX.own ⟨hr3, hC2l, by rw [hlen, hC2p, extCells_append, extCells, ← hX2, List.append_assoc], by rw [hlen]; exact hroom, hrow.max⟩ hgb
  have HO := hid hown; have HB3 := hid hb3
  have hs1 : IntKind.i64.wrap ((i : Int) + 1) = (i : Int) + 1 := IntWalk.i64_in _ (by omega)
  have hs2 : (0 : Int) ≤ (i : Int) + 1 := by omega
  have hs3 : ((i : Int) + 1).toNat = i + 1 := by omega
  have hs4 : (i : Int) + 1 ≤ (n : Int) + 1 := by omega
  have hs5 : ¬ c = i + 1 := by omega
  have hs6 : i ≤ n + 1 := by omega
  have hs8 : (i : Int) ≤ (n : Int) + 1 := by omega
  have hs7 : ¬ c = i := by omega
  clear hown hb3 hr3 hC2p hC2l hlen hC2 hw3 hb2 hxr2 hr2 hC1l hw2 hC1 hrowd hdropd hft hmn hxc hsz h1x h1X2 hX2 hpre hdrop hcl hT1 hT2 ht1 ht2 hn hrow ho hx
  go_enter Try.func50, Try.ntmps50
  go_wp2_with (simp only [hov])
  go_region_law (fail)
  go_wp2
  go_ret
  exact ⟨some ⟨g, 0, none⟩, c, rfl, HO.out, HB3.out⟩
theorem Insert_any (base : Nat) (w : World) (A : Option Addr) (c N i : Nat) (l : List Ext) (hN : N = l.length) (hN2 : N ≤ 1000000) (hi : i ≤ N) (ho : OwnX base w A c l) (hbase : base ≤ w.heap.size) (vb vc : Nat) (x : Ext) (hx : w.heap[vb]? = some (.cells x.cells.toArray 24 (0, 0))) (hvg : ∀ g, A = some ⟨g, 0, none⟩ → vb ≠ g) :
    Calls Try.prog 50 #[.slice A N c, .int .i64 (i : Int), .slice (some ⟨vb, 0, none⟩) 1 vc] w fun e w' => ∃ A' c', e = .returned (.slice A' (N + 1) c') ∧ OwnX base w' A' c' (l.take i ++ x :: l.drop i) ∧ Below base w w' := by
  have hx' : RdX w (some ⟨vb, 0, none⟩) [x] := by
    intro _
    refine ⟨vb, 0, rfl, fun j u hu => ?_⟩
    rw [Nat.zero_add, cell_of_row _ _ _ _ _ _ hx]
    simpa [extCells] using hu
  by_cases hiN : i = N
  · have e : l.take i ++ x :: l.drop i = l ++ [x] := by rw [List.take_of_length_le (by omega), List.drop_of_length_le (by omega)]
    rw [e, hiN]
    exact Insert_end base w A c N l hN hN2 ho hbase vb vc x hx'
  · have hl : 0 < l.length := by omega
    rcases ho.2 with ⟨_, h0⟩ | ⟨g, cap, cur, hv, _⟩
    · omega
    · simp only [Value.slice.injEq, true_and] at hv
      obtain ⟨rfl, rfl⟩ := hv
      by_cases hr : N + 1 ≤ c
      · exact Insert_room base w g c N i l hN hN2 (by omega) hr ho vb vc x hx (hvg g rfl)
      · exact Insert_grow base w g c N i l hN hN2 (by omega) (by omega) ho hbase vb vc x hx'
theorem run_clearX (W : World) (ty : TypeId) (g o cc : Nat) (cur : List Value) (hg : W.heap[g]? = some (.cells cur.toArray 24 (0, 0))) (hfit : o + 3 ≤ cur.length) :
    (Builtin.clear_ #[22] ty #[.slice (some ⟨g, o, none⟩) 1 cc]).run Try.prog W = .ok (.tuple #[]) (W.setRow g (cur.take o ++ [Value.int .i64 0, Value.int .i64 0, Value.int .i64 0] ++ cur.drop (o + 3)).toArray) := by
  obtain ⟨i0, hi, hz0, hz1, hz2⟩ := info_parts info_ext
  have hst := run_storeCells_at Try.prog g o 24 [.int .i64 0, .int .i64 0, .int .i64 0] 0 cur.toArray W hg (by simpa using hfit) (by intro v hv; simp at hv; subst hv; rfl)
  have hz : (Builtin.zeroCells (Value.agg #[.int .i64 0, .int .i64 0, .int .i64 0]).cells 1).toList = [.int .i64 0, .int .i64 0, .int .i64 0] := by kernel_rfl
  simp only [Nat.add_zero] at hst
  simp [Builtin.clear_, run_underlying Try.underlying22, zeroValue, typeInfo, hi, hz0, hz, hst]
theorem Delete_any (base : Nat) (w : World) (g c N i : Nat) (l : List Ext) (hN : N = l.length) (hN2 : N ≤ 1000000) (hi : i < N) (ho : OwnX base w (some ⟨g, 0, none⟩) c l) :
    Calls Try.prog 53 #[.slice (some ⟨g, 0, none⟩) N c, .int .i64 (i : Int), .int .i64 ((i : Int) + 1)] w fun e w' => e = .returned (.slice (some ⟨g, 0, none⟩) (N - 1) c) ∧ OwnX base w' (some ⟨g, 0, none⟩) c (l.take i ++ l.drop (i + 1)) ∧ Below base w w' := by
  subst hN
  have hcap := own_cap ho
  simp only [maxLen] at hcap
  obtain ⟨hc1, hc2⟩ := hcap
  obtain ⟨hgb, cur, hrow⟩ := ho.row
  obtain ⟨k, hk⟩ : ∃ k, l.length = i + 1 + k := ⟨l.length - (i + 1), by omega⟩
  have ht1 : (l.take i).length = i := by rw [List.length_take]; omega
  have ht2 : (l.drop (i + 1)).length = k := by rw [List.length_drop]; omega
  have hT1 : (extCells (l.take i)).length = i * 3 := by rw [extCells_length, ht1]; omega
  have hT2 : (extCells (l.drop (i + 1))).length = k * 3 := by rw [extCells_length, ht2]; omega
  have hcl := hrow.len
  have hdrop := hrow.at_drop (i + 1) (by omega)
  have hpre : cur.take (i * 3) = extCells (l.take i) := by rw [extCells_take l i (by omega), ← hrow.pre, List.take_take, Nat.min_eq_left (by omega)]
  obtain ⟨X2, hX2⟩ : ∃ X, X = extCells (l.drop (i + 1)) := ⟨_, rfl⟩
  rw [← hX2] at hT2 hdrop
  have h1X2 : ∀ v ∈ X2, v.oneCell' = true := by rw [hX2]; exact extCells_one _
  obtain ⟨i0, hi0, hz0, hz1, hz2⟩ := info_parts info_ext
  obtain ⟨ad, had, hna⟩ : ∃ ad : Addr, (if c = i + 1 then (⟨g, 0, none⟩ : Addr) else ⟨g, (i + 1) * 3, none⟩) = ad ∧ ∀ (j : Nat) (u : Value), X2[j]? = some u → w.drew.cell? (ad.add j) = some u := by
    by_cases hcj : c = i + 1
    · have hk0 : k = 0 := by omega
      refine ⟨_, rfl, fun j u hu => ?_⟩
      have : j < X2.length := (List.getElem?_eq_some_iff.1 hu).1
      omega
    · refine ⟨_, rfl, fun j u hu => ?_⟩
      rw [if_neg hcj, add_plain]
      exact hdrop j u hu
  have hrowd : w.drew.heap[g]? = some (.cells cur.toArray 24 (0, 0)) := hrow.row
  obtain ⟨C1, hC1⟩ : ∃ C1, C1 = cur.take (i * 3) ++ X2 ++ cur.drop (i * 3 + X2.length) := ⟨_, rfl⟩
  obtain ⟨w2, hw2⟩ : ∃ w2, w2 = w.drew.setRow g C1.toArray := ⟨_, rfl⟩
  have hld : (loadCellsFrom ad 0 (k * 3) #[]).run Try.prog w.drew = .ok X2.toArray w.drew := by
    have := run_loadCells_list (P := Try.prog) w.drew ad X2 hna
    rw [hT2] at this
    exact this
  have hst : (storeCells ⟨g, i * 3, none⟩ X2).run Try.prog w.drew = .ok () w2 := by
    have := run_storeCells_at Try.prog g (i * 3) 24 X2 0 cur.toArray w.drew hrowd (by rw [hT2, List.size_toArray]; omega) h1X2
    rw [hw2, hC1]
    simpa using this
  have hr2 : w2.heap[g]? = some (.cells C1.toArray 24 (0, 0)) := by rw [hw2]; exact setRow_is hrowd
  have hC1l : C1.length = c * 3 := by
    rw [hC1]
    simp only [List.length_append, List.length_take, List.length_drop, hcl, hT2]
    omega
  have hb2 : Below base w w2 := by
    rw [hw2]
    exact setRow_below (below_drewN2 (Below.refl _ _) 1) hgb _
  have hrun2 := fun ty cc => run_clearX w2 ty g ((i + k) * 3) cc C1 hr2 (by rw [hC1l]; omega)
  obtain ⟨C2, hC2⟩ : ∃ C2, C2 = C1.take ((i + k) * 3) ++ [Value.int .i64 0, Value.int .i64 0, Value.int .i64 0] ++ C1.drop ((i + k) * 3 + 3) := ⟨_, rfl⟩
  simp only [← hC2] at hrun2
  obtain ⟨w3, hw3⟩ : ∃ w3, w3 = w2.setRow g C2.toArray := ⟨_, rfl⟩
  simp only [← hw3] at hrun2
  have hr3 : w3.heap[g]? = some (.cells C2.toArray 24 (0, 0)) := by rw [hw3]; exact setRow_is hr2
  have hb3 : Below base w w3 := by
    rw [hw3]
    exact setRow_below hb2 hgb _
  have hC1p : C1.take ((i + k) * 3) = extCells (l.take i) ++ X2 := by
    have e3 : (extCells (l.take i) ++ X2).length = (i + k) * 3 := by
      rw [List.length_append, hT1, hT2]
      omega
    rw [hC1, hpre, ← e3, List.take_left]
  have hC2p : C2.take ((i + k) * 3) = extCells (l.take i) ++ X2 := by
    rw [hC2, List.append_assoc, List.take_append_of_le_length (by rw [List.length_take, hC1l]; omega), List.take_take, Nat.min_self, hC1p]
  have hC2l : C2.length = c * 3 := by
    rw [hC2]
    simp only [List.length_append, List.length_take, List.length_drop, hC1l, List.length_cons, List.length_nil]
    omega
  have hlen : (l.take i ++ l.drop (i + 1)).length = i + k := by rw [List.length_append, ht1, ht2]
  have hown : OwnX base w3 (some ⟨g, 0, none⟩) c (l.take i ++ l.drop (i + 1)) :=
    RowX.own ⟨hr3, hC2l, by rw [hlen, hC2p, extCells_append, ← hX2], by rw [hlen]; omega, hrow.max⟩ hgb
  have HO := hid hown; have HB3 := hid hb3
  rw [hk] at hc1 hN2 ⊢
  have hs0 : i + 1 + k - 1 = i + k := by omega
  rw [hs0]
  have hs1 : ((i : Int) + 1).toNat = i + 1 := by omega
  have hs2 : (i : Int) ≤ (i : Int) + 1 := by omega
  have hs3 : (i : Int) + 1 ≤ (i : Int) + 1 + (k : Int) := by omega
  have hs4 : (0 : Int) ≤ (i : Int) + 1 := by omega
  have hs5 : ¬ c = i + k := by omega
  have hs6 : i ≤ i + 1 + k := by omega
  have hs7 : i + k ≤ i + 1 + k := by omega
  have hs8 : i + 1 + k - (i + 1) = k := by omega
  have hs9 : i + 1 + k - (i + k) = 1 := by omega
  have hsb : i ≤ c := by omega
  have hsc : i + k ≤ c := by omega
  have had' : (if c = i + 1 then some (⟨g, 0, none⟩ : Addr) else some ⟨g, (i + 1) * 3, none⟩) = some ad := by
    rw [← had]
    split <;> rfl
  have hsa : ((i : Int) == (i : Int) + 1) = false := by
    rw [beq_eq_false_iff_ne]
    omega
  clear had hown hb3 hr3 hC2p hC1p hC2l hlen hC2 hw3 hb2 hr2 hC1l hw2 hC1 hrowd hna hi0 hz0 hz1 hz2 h1X2 hX2 hpre hdrop hcl hT1 hT2 ht1 ht2 hk hi hrow ho hs0
  go_enter Try.func53, Try.ntmps53
  go_wp2
  go_region_law (fail)
  go_wp2
  go_ret
  exact ⟨rfl, HO.out, HB3.out⟩
end Go.Proofs.Ytahlhdhljjpeoaa
