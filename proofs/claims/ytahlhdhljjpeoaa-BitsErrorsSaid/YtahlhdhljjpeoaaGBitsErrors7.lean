/- Texts joined: BtG, BitsQ. -/
import Derived.Test.YtahlhdhljjpeoaaGBitsErrors4
import Derived.Test.YtahlhdhljjpeoaaGBitsErrors6
/- bits.Empty (printed by gen24d.py). -/
namespace Go.Proofs.Ytahlhdhljjpeoaa
open Go.RowKit
set_option maxHeartbeats 3200000
set_option maxRecDepth 100000
set_option linter.unusedVariables false
set_option linter.unusedSimpArgs false

/-- The blocks of an emptied space: what is taken. -/
def emU (N da : Nat) (k : Nat) : List Bool := List.replicate k true ++ List.replicate (N - k) false
def emWs (l : Lay) : List (Nat × List UInt8) := (l.bi.toNat, wrB (emU l.bl.toNat 0 l.da.toNat)) :: (List.range l.ib.toNat).map fun k => (l.ino.toNat + k, zeros 4096)
def emP (d : Pl) (l : Lay) : Pl × Int := if rightL l = true then emRun d (emWs l) else (d, 2)
theorem madeBoL (n : Nat) : (madeCells #[.bool false] n).toList = BvL (List.replicate n false) := by
  rw [toList_madeCells_one, BvL, List.map_replicate]
theorem put_len (d : Pl) (n : Nat) (b : List UInt8) : (d.tick.put n b).b.length = d.b.length ∧ (d.tick.put n b).did = d.did + 1 ∧ d.left - 1 ≤ (d.tick.put n b).left := by
  have h := tick_b d
  refine ⟨by simp [Pl.put, h.1], by simp [Pl.put, h.2.2], ?_⟩
  show d.left - 1 ≤ d.tick.left
  unfold Pl.tick
  split
  · exact Int.le_refl _
  · omega
theorem Empty_no {base : Nat} (w : World) (P : Nat) {S : Nat → Prop} {d : Pl} (h : IsPl QT base w P S d) (l : Lay) (hR : rightL l = false) :
    Calls Try.prog 27 #[spV P, l.val] w fun e w' => e = .returned (.int .i64 2) ∧ TurnP QT base w P S w' d := by
  have WR := fun w => bitsWrong_any w P l
  have hw : wrgE l = 2 := by simp [wrgE, hR]
  simp only [hw] at WR
  have H := hid h
  clear h hw hR
  obtain ⟨b0, b1, b2, b3, b4, b5, b6⟩ := l
  simp only [Lay.val, spV] at WR ⊢
  obtain ⟨W0, hW0⟩ : ∃ W0, W0 = w.alloc (.cells #[.int .i64 b0, .int .i64 b1, .int .i64 b2, .int .i64 b3, .int .i64 b4, .int .i64 b5, .int .i64 b6] 39) := ⟨_, rfl⟩
  have hrow := heap_alloc_new w (.cells #[.int .i64 b0, .int .i64 b1, .int .i64 b2, .int .i64 b3, .int .i64 b4, .int .i64 b5, .int .i64 b6] 39)
  have hB0 : Below w.heap.size w (w.alloc (.cells #[.int .i64 b0, .int .i64 b1, .int .i64 b2, .int .i64 b3, .int .i64 b4, .int .i64 b5, .int .i64 b6] 39)) := (Below.refl _ _).alloc (Nat.le_refl _) _
  rw [← hW0] at hrow hB0
  have WR := WR W0
  have HW0 := hid hW0; have HROW := hid hrow; have HB0 := hid hB0
  rw [hW0] at WR
  clear hW0 hrow hB0
  go_enter Try.func27, Try.ntmps27
  go_wp2_with fail
  refine WR.mono ?_
  rw [← HW0.out]
  rintro e w1 ⟨rfl, b1'⟩
  have HB := hid (HB0.out.trans (b1'.mono HB0.out.size))
  clear WR b1'
  go_wp2
  go_ret
  exact ⟨rfl, H.out.still HB.out⟩
theorem Empty_yes {base : Nat} (w : World) (P : Nat) {S : Nat → Prop} {d : Pl} (h : IsPl QT base w P S d) (hl : -10000000 ≤ d.left) (hd : d.did ≤ 100000) (l : Lay) (hbl : l.bl = (d.b.length : Int)) (hR : rightL l = true) :
    Calls Try.prog 27 #[spV P, l.val] w fun e w' => e = .returned (.int .i64 (emRun d (emWs l)).2) ∧ TurnP QT base w P S w' (emRun d (emWs l)).1 := by
  have WR := fun w => bitsWrong_any w P l
  have hw : wrgE l = 0 := by simp [wrgE, hR]
  simp only [hw] at WR
  have hin := right_in hR
  obtain ⟨N, hN⟩ : ∃ N : Nat, N = d.b.length := ⟨_, rfl⟩
  rw [← hN] at hbl
  obtain ⟨bi, hbi⟩ : ∃ n : Nat, l.bi = (n : Int) := ⟨l.bi.toNat, by omega⟩
  obtain ⟨ino, hino⟩ : ∃ n : Nat, l.ino = (n : Int) := ⟨l.ino.toNat, by omega⟩
  obtain ⟨ib, hib⟩ : ∃ n : Nat, l.ib = (n : Int) := ⟨l.ib.toNat, by omega⟩
  obtain ⟨da, hda⟩ : ∃ n : Nat, l.da = (n : Int) := ⟨l.da.toNat, by omega⟩
  have hbiN : bi < N := by omega
  have hdaN : da ≤ N := by omega
  have hinoN : ino + ib ≤ N := by omega
  have hN5 : N ≤ 512 := by omega
  have hN64 : 64 ≤ N := by omega
  have hES : emWs l = (bi, wrB (emU N 0 da)) :: (List.range ib).map fun k => (ino + k, zeros 4096) := by
    unfold emWs
    rw [hbi, hino, hib, hda, hbl]
    rfl
  have hul : (emU N 0 da).length = N := by unfold emU; simp; omega
  have WTf := fun (W : World) (A : Option Addr) (c : Nat) (hr : RdV W A (BvL (emU N 0 da))) => written_any W l hR A N c (emU N 0 da) hul.symm (by rw [hul]; omega) hr
  have HES := hid hES; have HN := hid hN; have HWT := hid WTf; have H := hid h
  rw [hES]
  clear hES hN WTf h hul hw hR hin
  obtain ⟨b0, b1, b2, b3, b4, b5, b6⟩ := l
  simp only [Lay.val, spV] at WR HWT hbl hbi hino hib hda ⊢
  subst hbl hbi hino hib hda
  obtain ⟨W0, hW0⟩ : ∃ W0, W0 = w.alloc (.cells #[.int .i64 (N : Int), .int .i64 b1, .int .i64 b2, .int .i64 (bi : Int), .int .i64 (ino : Int), .int .i64 (ib : Int), .int .i64 (da : Int)] 39) := ⟨_, rfl⟩
  have hrow := heap_alloc_new w (.cells #[.int .i64 (N : Int), .int .i64 b1, .int .i64 b2, .int .i64 (bi : Int), .int .i64 (ino : Int), .int .i64 (ib : Int), .int .i64 (da : Int)] 39)
  have hB0 : Below w.heap.size w (w.alloc (.cells #[.int .i64 (N : Int), .int .i64 b1, .int .i64 b2, .int .i64 (bi : Int), .int .i64 (ino : Int), .int .i64 (ib : Int), .int .i64 (da : Int)] 39)) := (Below.refl _ _).alloc (Nat.le_refl _) _
  rw [← hW0] at hrow hB0
  have WR := WR W0
  have HW0 := hid hW0; have HROW := hid hrow; have HB0 := hid hB0
  rw [hW0] at WR
  clear hW0 hrow hB0
  have hmk := fun W => run_mkBo N (by omega) W
  go_enter Try.func27, Try.ntmps27
  go_wp2_with fail
  refine WR.mono ?_
  rw [← HW0.out]
  rintro e w1 ⟨rfl, b1'⟩
  have hb1 := HB0.out.trans (b1'.mono HB0.out.size)
  have hrow1 := (b1'.block _ (heap_in HROW.out)).trans HROW.out
  obtain ⟨y0, y1, y2, y3, y4, y5, y6⟩ := cells7b hrow1
  have HB1 := hid hb1; have HROW1 := hid hrow1
  have hlt1 : w.heap.size < w1.heap.size := heap_in hrow1
  clear WR b1' hb1 hrow1
  go_wp2_with fail
  obtain ⟨v6, hv6⟩ : ∃ v6, v6 = w1.alloc (.cells (madeCells #[.bool false] N) 4) := ⟨_, rfl⟩
  have b6 : Below w1.heap.size w1 v6 := by rw [hv6]; exact (Below.refl _ _).alloc (Nat.le_refl _) _
  have o6 : v6.ownsRow w1.heap.size 4 1 (.slice (some ⟨w1.heap.size, 0, none⟩) N N) N (BvL (emU N da 0)) := by
    have h := World.ownsRow_lit (base := w1.heap.size) (e := 4) (size := 1) w1 (madeCells #[.bool false] N) N (Nat.le_refl _) (by simp only [maxLen]; omega) (by simp [size_madeCells])
    rw [madeBoL] at h
    rw [hv6]
    simpa [emU] using h
  have r6 := (b6.block _ (heap_in HROW1.out)).trans HROW1.out
  obtain ⟨y0, y1, y2, y3, y4, y5, y6⟩ := cells7b r6
  rw [← hv6]
  have HV6 := hid hv6; have R6 := hid r6; have hz6 := b6.size
  clear hv6 hmk r6
  go_loopw [22] (fun i wr => ∃ k : Nat, k ≤ da ∧ i = .int .i64 ((k : Nat) : Int) ∧ wr.ownsRow w1.heap.size 4 1 (.slice (some ⟨w1.heap.size, 0, none⟩) N N) N (BvL (emU N da k)) ∧ Below w1.heap.size w1 wr) (fun i _ => da - (intOf i).toNat)
  case atStart => exact ⟨0, by omega, rfl, o6, b6⟩
  case round => as_aux_lemma =>
    obtain ⟨k, hk, rfl, ho, hb⟩ := hrel
    by_cases hlt : k < da
    · have hbl : (BvL (emU N da k)).length = N := by simp [BvL, emU]; omega
      have cl := World.ownsRow.cellAt ho k (by omega)
      obtain ⟨x, hx⟩ : ∃ x, (BvL (emU N da k))[k]? = some x := ⟨_, List.getElem?_eq_getElem (by omega)⟩
      rw [hx] at cl
      have fz := World.ownsRow.frozenAt ho k
      have st := (World.ownsRow.stored ho k (.bool true)).1
      have e1 : (BvL (emU N da k)).set k (.bool true) = BvL (emU N da (k + 1)) := by
        have e0 : (emU N da k).set k true = emU N da (k + 1) := by
          unfold emU
          rw [List.set_append_right _ _ (by simp), List.length_replicate, Nat.sub_self, show N - k = (N - (k + 1)) + 1 by omega, List.replicate_succ (a := false), List.set_cons_zero, List.replicate_succ' (a := true), List.append_assoc]
          rfl
        rw [← e0]
        simp only [BvL, List.map_set]
      rw [e1] at st
      have hkN : (k : Int) < (N : Int) := by omega
      have ST := hid st
      have HB := hid (hb.setCell (p := ⟨w1.heap.size, k, none⟩) (Nat.le_refl _) (.bool true))
      clear st e1 ho hb hbl hx y0 y1 y2 y3 y4 y5 y6
      go_wp2_with fail
      go_roundw
      case rel => exact ⟨k + 1, by omega, by go_num, ST.out, HB.out⟩
      case measure => simp [intOf]; omega
    · obtain rfl : k = da := by omega
      have hrB : RdV wr (some ⟨w1.heap.size, 0, none⟩) (BvL (emU N 0 k)) := RdV.own ho
      have hrw := (hb.block _ (heap_in HROW1.out)).trans HROW1.out
      have HB := hid hb
      have hd1 : Below wr.heap.size wr wr.drew := below_dr wr
      have hrD : wr.drew.heap[w.heap.size]? = some (.cells #[.int .i64 (N : Int), .int .i64 b1, .int .i64 b2, .int .i64 (bi : Int), .int .i64 (ino : Int), .int .i64 (ib : Int), .int .i64 (k : Int)] 39 (0, 0)) := hrw
      have WT := HWT.out wr.drew (some ⟨w1.heap.size, 0, none⟩) N (hrB.kept hd1)
      have sX := cells7b hrD
      have hbD : Below w.heap.size w wr.drew := (HB1.out.trans (hb.mono HB1.out.size)).trans (hd1.mono (HB1.out.trans (hb.mono HB1.out.size)).size)
      have hS : ¬ S w.heap.size := fun hs => by have := (H.out.blocks hs).2.1; omega
      have hPl := H.out.lt
      have WRf : ∀ (w4 : World), Below wr.drew.heap.size wr.drew w4 → ∀ g, OwnB wr.drew.heap.size w4 (some ⟨g, 0, none⟩) 4096 (wrB (emU N 0 k)) → Calls Try.prog 46 #[.pointer (some ⟨P, 0, none⟩), .int .i64 (bi : Int), .slice (some ⟨g, 0, none⟩) 4096 4096] w4 fun e w' => e = .returned (.int .i64 (if d.spent = true then 4 else 0)) ∧ TurnP QT base w4 P S w' (if d.spent = true then d.tick else d.tick.put bi (wrB (emU N 0 k))) := by
        intro w4 b4 g o4
        have hb4 := hbD.trans (b4.mono hbD.size)
        exact Write_is w4 P (H.out.below hb4) (by omega) bi (by rw [← HN.out]; exact hbiN) (some ⟨g, 0, none⟩) 4096 _ (wrB_length _) o4.rd (by omega) (fun b hb e => by
          have := o4.lt.1
          have hz := hbD.size
          simp only [Option.map_some, Option.some.injEq] at hb
          omega)
      have hna := fun W => nilA P W
      have HWR := hid WRf; have HRD := hid hrD; have HNS := hid hS; have HBD := hid hbD
      clear ho hb hrB hrw hd1 hrD hbD WRf hPl y0 y1 y2 y3 y4 y5 y6
      go_wp2_with fail
      refine wp_region_held_drew (S := fun W1 => W1.cell? ⟨w.heap.size, 0, none⟩ = some (.int .i64 (N : Int)) ∧ W1.cell? ⟨w.heap.size, 1, none⟩ = some (.int .i64 b1) ∧ W1.cell? ⟨w.heap.size, 2, none⟩ = some (.int .i64 b2) ∧ W1.cell? ⟨w.heap.size, 3, none⟩ = some (.int .i64 (bi : Int)) ∧ W1.cell? ⟨w.heap.size, 4, none⟩ = some (.int .i64 (ino : Int)) ∧ W1.cell? ⟨w.heap.size, 5, none⟩ = some (.int .i64 (ib : Int)) ∧ W1.cell? ⟨w.heap.size, 6, none⟩ = some (.int .i64 (k : Int))) (by kernel_rfl) (by exact sX) (fun hHeld => ?_)
      refine wpAnyH_take (i := 0) (oi := ?o0z2) (v := ?v0z2) ?hi0z2 (by kernel_rfl) (by kernel_rfl) ?hr0z2 ?hQ0z2 ?hy0z2 hHeld ?r0z2
      case hi0z2 => (simp only [List.getElem?_toArray, List.getElem?_cons_zero, List.getElem?_cons_succ]; rfl)
      case hr0z2 => kernel_rfl
      case hQ0z2 => exact fun _ _ _ h => h
      case hy0z2 => (refine Or.inl ⟨by rfl, ?_⟩; intro w hSw; (try dsimp only at hSw); go_simp; try with_reducible rfl)
      try simp only [Act.put, List.setIfInBounds_toArray, List.set_cons_zero, List.set_cons_succ]
      refine wpAnyH_take (i := 1) (oi := ?o1z2) (v := ?v1z2) ?hi1z2 (by kernel_rfl) (by kernel_rfl) ?hr1z2 ?hQ1z2 ?hy1z2 hHeld ?r1z2
      case hi1z2 => (simp only [List.getElem?_toArray, List.getElem?_cons_zero, List.getElem?_cons_succ]; rfl)
      case hr1z2 => kernel_rfl
      case hQ1z2 => exact fun _ _ _ h => h
      case hy1z2 => (refine Or.inl ⟨by rfl, ?_⟩; intro w hSw; (try dsimp only at hSw); go_simp; try with_reducible rfl)
      try simp only [Act.put, List.setIfInBounds_toArray, List.set_cons_zero, List.set_cons_succ]
      refine wpAnyH_take (i := 2) (oi := ?o2z2) (v := ?v2z2) ?hi2z2 (by kernel_rfl) (by kernel_rfl) ?hr2z2 ?hQ2z2 ?hy2z2 hHeld ?r2z2
      case hi2z2 => (simp only [List.getElem?_toArray, List.getElem?_cons_zero, List.getElem?_cons_succ]; rfl)
      case hr2z2 => kernel_rfl
      case hQ2z2 => exact fun _ _ _ h => h
      case hy2z2 => (refine Or.inl ⟨by rfl, ?_⟩; intro w hSw; (try dsimp only at hSw); go_simp; try with_reducible rfl)
      try simp only [Act.put, List.setIfInBounds_toArray, List.set_cons_zero, List.set_cons_succ]
      refine wpAnyH_take (i := 3) (oi := ?o3z2) (v := ?v3z2) ?hi3z2 (by kernel_rfl) (by kernel_rfl) ?hr3z2 ?hQ3z2 ?hy3z2 hHeld ?r3z2
      case hi3z2 => (simp only [List.getElem?_toArray, List.getElem?_cons_zero, List.getElem?_cons_succ]; rfl)
      case hr3z2 => kernel_rfl
      case hQ3z2 => exact fun _ _ _ h => h
      case hy3z2 => (refine Or.inl ⟨by rfl, ?_⟩; intro w hSw; (try dsimp only at hSw); go_simp; try with_reducible rfl)
      try simp only [Act.put, List.setIfInBounds_toArray, List.set_cons_zero, List.set_cons_succ]
      refine wpAnyH_take (i := 4) (oi := ?o4z2) (v := ?v4z2) ?hi4z2 (by kernel_rfl) (by kernel_rfl) ?hr4z2 ?hQ4z2 ?hy4z2 hHeld ?r4z2
      case hi4z2 => (simp only [List.getElem?_toArray, List.getElem?_cons_zero, List.getElem?_cons_succ]; rfl)
      case hr4z2 => kernel_rfl
      case hQ4z2 => exact fun _ _ _ h => h
      case hy4z2 => (refine Or.inl ⟨by rfl, ?_⟩; intro w hSw; (try dsimp only at hSw); go_simp; try with_reducible rfl)
      try simp only [Act.put, List.setIfInBounds_toArray, List.set_cons_zero, List.set_cons_succ]
      refine wpAnyH_take (i := 6) (oi := ?o6z2) (v := ?v6z2) ?hi6z2 (by kernel_rfl) (by kernel_rfl) ?hr6z2 ?hQ6z2 ?hy6z2 hHeld ?r6z2
      case hi6z2 => (simp only [List.getElem?_toArray, List.getElem?_cons_zero, List.getElem?_cons_succ]; rfl)
      case hr6z2 => kernel_rfl
      case hQ6z2 => exact fun _ _ _ h => h
      case hy6z2 => (refine Or.inl ⟨by rfl, ?_⟩; intro w hSw; (try dsimp only at hSw); go_simp; try with_reducible rfl)
      try simp only [Act.put, List.setIfInBounds_toArray, List.set_cons_zero, List.set_cons_succ]
      refine wpAnyH_take (i := 7) (oi := ?o7z2) (v := ?v7z2) ?hi7z2 (by kernel_rfl) (by kernel_rfl) ?hr7z2 ?hQ7z2 ?hy7z2 hHeld ?r7z2
      case hi7z2 => (simp only [List.getElem?_toArray, List.getElem?_cons_zero, List.getElem?_cons_succ]; rfl)
      case hr7z2 => kernel_rfl
      case hQ7z2 => exact fun _ _ _ h => h
      case hy7z2 => (refine Or.inl ⟨by rfl, ?_⟩; intro w hSw; (try dsimp only at hSw); go_simp; try with_reducible rfl)
      try simp only [Act.put, List.setIfInBounds_toArray, List.set_cons_zero, List.set_cons_succ]
      refine wpAnyH_take (i := 8) (oi := ?o8z2) (v := ?v8z2) ?hi8z2 (by kernel_rfl) (by kernel_rfl) ?hr8z2 ?hQ8z2 ?hy8z2 hHeld ?r8z2
      case hi8z2 => (simp only [List.getElem?_toArray, List.getElem?_cons_zero, List.getElem?_cons_succ]; rfl)
      case hr8z2 => kernel_rfl
      case hQ8z2 => exact fun _ _ _ h => h
      case hy8z2 => (refine Or.inl ⟨by rfl, ?_⟩; intro w hSw; (try dsimp only at hSw); go_simp; try with_reducible rfl)
      try simp only [Act.put, List.setIfInBounds_toArray, List.set_cons_zero, List.set_cons_succ]
      refine wpAnyH_ready (rs := [5]) (by kernel_rfl) (by simp) (AllReadyH.cons (o := ?o5z2) ?hi5z2 (fun K hK => ?r5z2) AllReadyH.nil)
      case hi5z2 => (simp only [List.getElem?_toArray, List.getElem?_cons_zero, List.getElem?_cons_succ]; rfl)
      go_simp
      refine WT.mono ?_
      rintro e w4 ⟨g, rfl, o4, b4⟩
      have r4 := (b4.block _ (heap_in HRD.out)).trans HRD.out
      have s4 := cells7b r4
      have WW := HWR.out w4 b4 g o4
      clear WT
      refine hK.out _ _ (by exact s4) (fun hHeld => ?_)
      clear hK K
      try simp only [Act.put, List.setIfInBounds_toArray, List.set_cons_zero, List.set_cons_succ]
      refine wpAnyH_ready (rs := [9]) (by kernel_rfl) (by simp) (AllReadyH.cons (o := ?o9z2) ?hi9z2 (fun K hK => ?r9z2) AllReadyH.nil)
      case hi9z2 => (simp only [List.getElem?_toArray, List.getElem?_cons_zero, List.getElem?_cons_succ]; rfl)
      go_simp
      refine WW.mono ?_
      rintro e w5 ⟨rfl, S5, i5, k5, h5⟩
      have r5 := (k5.block _ (heap_in r4) HNS.out).trans r4
      have s5 := cells7b r5
      have B4 := hid b4; have I5 := hid i5; have K5 := hid k5; have H5 := hid h5; have R5 := hid r5
      clear WW i5 k5 h5 r4 r5 o4 b4
      refine hK.out _ _ (by exact s5) (fun hHeld => ?_)
      clear hK K
      try simp only [Act.put, List.setIfInBounds_toArray, List.set_cons_zero, List.set_cons_succ]
      refine wpAnyH_take (i := 10) (oi := ?o10z2) (v := ?v10z2) ?hi10z2 (by kernel_rfl) (by kernel_rfl) ?hr10z2 ?hQ10z2 ?hy10z2 hHeld ?r10z2
      case hi10z2 => (simp only [List.getElem?_toArray, List.getElem?_cons_zero, List.getElem?_cons_succ]; rfl)
      case hr10z2 => kernel_rfl
      case hQ10z2 => exact fun _ _ _ h => h
      case hy10z2 => (refine Or.inl ⟨by rfl, ?_⟩; intro w hSw; (try dsimp only at hSw); go_simp; try with_reducible rfl)
      try simp only [Act.put, List.setIfInBounds_toArray, List.set_cons_zero, List.set_cons_succ]
      refine wpAnyH_done (by kernel_rfl) ?_ _
      clear sX s4 s5
      have hz4 : w.heap.size < w4.heap.size := by have := B4.out.size; have := heap_in HRD.out; omega
      have hb4 := HBD.out.trans (B4.out.mono HBD.out.size)
      have hk5 : Kpt S w w5 := (Kpt.of_below hb4).trans K5.out
      have hs5 : ∀ b, S5 b → S b ∨ w.heap.size < b := fun b hb => (H5.out b hb).imp id (fun h => by omega)
      have HK := hid hk5; have HS5 := hid hs5
      clear hb4 hk5 hs5
      cases hsp : d.spent with
      | true => as_aux_lemma =>
        have hi := I5.out
        rw [hsp] at hi
        simp only [if_true] at hi ⊢
        have he : emRun d ((bi, wrB (emU N 0 k)) :: (List.range ib).map fun k => (ino + k, zeros 4096)) = (d.tick, 4) := by unfold emRun; rw [if_pos hsp]
        have HE := hid he; have HI := hid hi
        clear hi hsp he
        go_wp2
        go_ret
        rw [HE.out]
        exact ⟨rfl, S5, HI.out, HK.out, fun b hb => (HS5.out b hb).imp id Nat.le_of_lt⟩
      | false => as_aux_lemma =>
        have hi := I5.out
        rw [hsp] at hi
        simp only [Bool.false_eq_true, if_false] at hi ⊢
        have he : emRun d ((bi, wrB (emU N 0 k)) :: (List.range ib).map fun k => (ino + k, zeros 4096)) = emRun (d.tick.put bi (wrB (emU N 0 k))) ((List.range ib).map fun k => (ino + k, zeros 4096)) := by
          conv => lhs; unfold emRun
          rw [if_neg (by rw [hsp]; decide)]
        obtain ⟨R, hRe⟩ : ∃ R, R = emRun (d.tick.put bi (wrB (emU N 0 k))) ((List.range ib).map fun k => (ino + k, zeros 4096)) := ⟨_, rfl⟩
        obtain ⟨p1, p2, p3⟩ := put_len d bi (wrB (emU N 0 k))
        rw [← hRe] at he
        rw [← HN.out] at p1
        have HE0 := hid he; have HRE := hid hRe; have HI := hid hi; have HP := hid (And.intro p1 (And.intro p2 p3))
        obtain ⟨y0, y1, y2, y3, y4, y5, y6⟩ := cells7b R5.out
        have hmk := fun W => run_mkB 4096 4096 4096 rfl rfl (by omega) W
        have hz4b := fun (W : World) (hb : W.heap.size ≤ W.heap.size) => OwnB.made W 4096 hb (by omega)
        obtain ⟨Z, hZ⟩ : ∃ Z : Array Value, Z = madeCells #[.int .u8 0] 4096 := ⟨_, rfl⟩
        simp only [← hZ] at hmk hz4b
        have HZ := hid hz4b
        clear hRe hi hsp he p1 p2 p3 hZ hz4b hna
        go_wp2_with fail
        go_loopw [44] (fun i wr => ∃ (j : Nat) (dk : Pl) (Sk : Nat → Prop), j ≤ ib ∧ i = .int .i64 ((j : Nat) : Int) ∧ emRun dk (((List.range ib).map fun k => (ino + k, zeros 4096)).drop j) = R ∧ IsPl QT base wr P Sk dk ∧ Kpt S w wr ∧ (∀ b, Sk b → S b ∨ w.heap.size < b) ∧
          wr.heap[w.heap.size]? = some (.cells #[.int .i64 (N : Int), .int .i64 b1, .int .i64 b2, .int .i64 (bi : Int), .int .i64 (ino : Int), .int .i64 (ib : Int), .int .i64 (k : Int)] 39 (0, 0)) ∧ dk.b.length = N ∧ d.left - (j + 1) ≤ dk.left ∧ dk.did ≤ d.did + (j + 1)) (fun i _ => ib - (intOf i).toNat)
        case atStart => exact ⟨0, d.tick.put bi (wrB (emU N 0 k)), S5, Nat.zero_le _, rfl, HRE.out.symm, HI.out, HK.out, HS5.out, R5.out, HP.out.1, by have := HP.out.2.2; omega, by have := HP.out.2.1; omega⟩
        case round => as_aux_lemma =>
          clear y0 y1 y2 y3 y4 y5 y6
          obtain ⟨j, dk, Sk, hj, rfl, hR, hi, hkk, hsk, hrow, hlen, hleft, hdid⟩ := hrel
          obtain ⟨y0, y1, y2, y3, y4, y5, y6⟩ := cells7b hrow
          by_cases hlt : j < ib
          · have hd1 : Below wr.heap.size wr wr.drew := below_dr wr
            have hrD : wr.drew.heap[w.heap.size]? = some (.cells #[.int .i64 (N : Int), .int .i64 b1, .int .i64 b2, .int .i64 (bi : Int), .int .i64 (ino : Int), .int .i64 (ib : Int), .int .i64 (k : Int)] 39 (0, 0)) := hrow
            have sX := cells7b hrD
            have ba : Below wr.drew.heap.size wr.drew (wr.drew.alloc (.cells Z 5)) := (Below.refl _ _).alloc (Nat.le_refl _) _
            have oz := HZ.out wr.drew (Nat.le_refl _)
            have hia := (hi.below hd1).below ba
            have W2 := Write_is (wr.drew.alloc (.cells Z 5)) P hia (by omega) (ino + j) (by rw [hlen]; omega) (some ⟨wr.drew.heap.size, 0, none⟩) 4096 (zeros 4096) (by simp [zeros]) oz.rd (by omega) (fun b hb e => by
              have h1 := hi.lt
              have h2 := hd1.size
              simp only [Option.map_some, Option.some.injEq] at hb
              omega)
            rw [show ((ino + j : Nat) : Int) = (ino : Int) + (j : Int) from by push_cast; rfl] at W2
            have hwr : IntKind.i64.wrap ((ino : Int) + (j : Int)) = (ino : Int) + (j : Int) := IntWalk.i64_in _ (by omega)
            have hna := fun W => nilA P W
            have HW2 := hid W2
            have HNk := hid (show ¬ Sk w.heap.size from fun hs => by
              rcases hsk _ hs with h | h
              · have := (H.out.blocks h).2.1; omega
              · omega)
            have hdr : ((List.range ib).map fun k => (ino + k, zeros 4096)).drop j = (ino + j, zeros 4096) :: ((List.range ib).map fun k => (ino + k, zeros 4096)).drop (j + 1) := by
              rw [List.drop_eq_getElem_cons (by simpa using hlt)]
              simp
            rw [hdr] at hR
            have HR := hid hR; have HSK := hid hsk; have HKK := hid hkk; have HLEN := hid hlen; have HLT := hid (And.intro hleft hdid)
            have hwrs := hkk.size
            clear hR hi hkk hsk hrow hlen hleft hdid oz hia W2 ba y0 y1 y2 y3 y4 y5 y6 hdr hd1
            go_wp2_with fail
            refine wp_region_held_drew (S := fun W1 => W1.cell? ⟨w.heap.size, 0, none⟩ = some (.int .i64 (N : Int)) ∧ W1.cell? ⟨w.heap.size, 1, none⟩ = some (.int .i64 b1) ∧ W1.cell? ⟨w.heap.size, 2, none⟩ = some (.int .i64 b2) ∧ W1.cell? ⟨w.heap.size, 3, none⟩ = some (.int .i64 (bi : Int)) ∧ W1.cell? ⟨w.heap.size, 4, none⟩ = some (.int .i64 (ino : Int)) ∧ W1.cell? ⟨w.heap.size, 5, none⟩ = some (.int .i64 (ib : Int)) ∧ W1.cell? ⟨w.heap.size, 6, none⟩ = some (.int .i64 (k : Int))) (by kernel_rfl) (by exact sX) (fun hHeld => ?_)
            refine wpAnyH_take (i := 0) (oi := ?o0z3) (v := ?v0z3) ?hi0z3 (by kernel_rfl) (by kernel_rfl) ?hr0z3 ?hQ0z3 ?hy0z3 hHeld ?r0z3
            case hi0z3 => (simp only [List.getElem?_toArray, List.getElem?_cons_zero, List.getElem?_cons_succ]; rfl)
            case hr0z3 => kernel_rfl
            case hQ0z3 => exact fun _ _ _ h => h
            case hy0z3 => (refine Or.inl ⟨by rfl, ?_⟩; intro w hSw; (try dsimp only at hSw); go_simp; try with_reducible rfl)
            try simp only [Act.put, List.setIfInBounds_toArray, List.set_cons_zero, List.set_cons_succ]
            refine wpAnyH_take (i := 1) (oi := ?o1z3) (v := ?v1z3) ?hi1z3 (by kernel_rfl) (by kernel_rfl) ?hr1z3 ?hQ1z3 ?hy1z3 hHeld ?r1z3
            case hi1z3 => (simp only [List.getElem?_toArray, List.getElem?_cons_zero, List.getElem?_cons_succ]; rfl)
            case hr1z3 => kernel_rfl
            case hQ1z3 => exact fun _ _ _ h => h
            case hy1z3 => (refine Or.inl ⟨by rfl, ?_⟩; intro w hSw; (try dsimp only at hSw); go_simp; try with_reducible rfl)
            try simp only [Act.put, List.setIfInBounds_toArray, List.set_cons_zero, List.set_cons_succ]
            refine wpAnyH_take (i := 2) (oi := ?o2z3) (v := ?v2z3) ?hi2z3 (by kernel_rfl) (by kernel_rfl) ?hr2z3 ?hQ2z3 ?hy2z3 hHeld ?r2z3
            case hi2z3 => (simp only [List.getElem?_toArray, List.getElem?_cons_zero, List.getElem?_cons_succ]; rfl)
            case hr2z3 => kernel_rfl
            case hQ2z3 => exact fun _ _ _ h => h
            case hy2z3 => (refine Or.inl ⟨by rfl, ?_⟩; intro w hSw; (try dsimp only at hSw); go_simp; try with_reducible rfl)
            try simp only [Act.put, List.setIfInBounds_toArray, List.set_cons_zero, List.set_cons_succ]
            refine wpAnyH_take (i := 3) (oi := ?o3z3) (v := ?v3z3) ?hi3z3 (by kernel_rfl) (by kernel_rfl) ?hr3z3 ?hQ3z3 ?hy3z3 hHeld ?r3z3
            case hi3z3 => (simp only [List.getElem?_toArray, List.getElem?_cons_zero, List.getElem?_cons_succ]; rfl)
            case hr3z3 => kernel_rfl
            case hQ3z3 => exact fun _ _ _ h => h
            case hy3z3 => (refine Or.inl ⟨by rfl, ?_⟩; intro w hSw; (try dsimp only at hSw); go_simp; try with_reducible rfl)
            try simp only [Act.put, List.setIfInBounds_toArray, List.set_cons_zero, List.set_cons_succ]
            refine wpAnyH_take (i := 4) (oi := ?o4z3) (v := ?v4z3) ?hi4z3 (by kernel_rfl) (by kernel_rfl) ?hr4z3 ?hQ4z3 ?hy4z3 hHeld ?r4z3
            case hi4z3 => (simp only [List.getElem?_toArray, List.getElem?_cons_zero, List.getElem?_cons_succ]; rfl)
            case hr4z3 => kernel_rfl
            case hQ4z3 => exact fun _ _ _ h => h
            case hy4z3 => (refine Or.inl ⟨by rfl, ?_⟩; intro w hSw; (try dsimp only at hSw); go_simp; try with_reducible rfl)
            try simp only [Act.put, List.setIfInBounds_toArray, List.set_cons_zero, List.set_cons_succ]
            refine wpAnyH_take (i := 6) (oi := ?o6z3) (v := ?v6z3) ?hi6z3 (by kernel_rfl) (by kernel_rfl) ?hr6z3 ?hQ6z3 ?hy6z3 hHeld ?r6z3
            case hi6z3 => (simp only [List.getElem?_toArray, List.getElem?_cons_zero, List.getElem?_cons_succ]; rfl)
            case hr6z3 => kernel_rfl
            case hQ6z3 => exact fun _ _ _ h => h
            case hy6z3 => (refine Or.inl ⟨by rfl, ?_⟩; intro w hSw; (try dsimp only at hSw); go_simp; try with_reducible rfl)
            try simp only [Act.put, List.setIfInBounds_toArray, List.set_cons_zero, List.set_cons_succ]
            refine wpAnyH_take (i := 7) (oi := ?o7z3) (v := ?v7z3) ?hi7z3 (by kernel_rfl) (by kernel_rfl) ?hr7z3 ?hQ7z3 ?hy7z3 hHeld ?r7z3
            case hi7z3 => (simp only [List.getElem?_toArray, List.getElem?_cons_zero, List.getElem?_cons_succ]; rfl)
            case hr7z3 => kernel_rfl
            case hQ7z3 => exact fun _ _ _ h => h
            case hy7z3 => (refine Or.inl ⟨by rfl, ?_⟩; intro w hSw; (try dsimp only at hSw); go_simp; try with_reducible rfl)
            try simp only [Act.put, List.setIfInBounds_toArray, List.set_cons_zero, List.set_cons_succ]
            refine wpAnyH_take (i := 8) (oi := ?o8z3) (v := ?v8z3) ?hi8z3 (by kernel_rfl) (by kernel_rfl) ?hr8z3 ?hQ8z3 ?hy8z3 hHeld ?r8z3
            case hi8z3 => (simp only [List.getElem?_toArray, List.getElem?_cons_zero, List.getElem?_cons_succ]; rfl)
            case hr8z3 => kernel_rfl
            case hQ8z3 => exact fun _ _ _ h => h
            case hy8z3 => (refine Or.inl ⟨by rfl, ?_⟩; intro w hSw; (try dsimp only at hSw); go_simp; try with_reducible rfl)
            try simp only [Act.put, List.setIfInBounds_toArray, List.set_cons_zero, List.set_cons_succ]
            refine wpAnyH_ready (rs := [5]) (by kernel_rfl) (by simp) (AllReadyH.cons (o := ?o5z3) ?hi5z3 (fun K hK => ?r5z3) AllReadyH.nil)
            case hi5z3 => (simp only [List.getElem?_toArray, List.getElem?_cons_zero, List.getElem?_cons_succ]; rfl)
            go_simp
            have ba : Below wr.drew.heap.size wr.drew (wr.drew.alloc (.cells Z 5)) := (Below.refl _ _).alloc (Nat.le_refl _) _
            have r6 := (ba.block _ (heap_in hrD)).trans hrD
            have s6 := cells7b r6
            have WW := HW2.out
            clear HW2
            refine hK.out _ _ (by exact s6) (fun hHeld => ?_)
            clear hK K
            try simp only [Act.put, List.setIfInBounds_toArray, List.set_cons_zero, List.set_cons_succ]
            refine wpAnyH_ready (rs := [9]) (by kernel_rfl) (by simp) (AllReadyH.cons (o := ?o9z3) ?hi9z3 (fun K hK => ?r9z3) AllReadyH.nil)
            case hi9z3 => (simp only [List.getElem?_toArray, List.getElem?_cons_zero, List.getElem?_cons_succ]; rfl)
            go_simp
            refine WW.mono ?_
            rintro e w7 ⟨rfl, S7, i7, k7, h7⟩
            have r7 := (k7.block _ (heap_in r6) HNk.out).trans r6
            have s7 := cells7b r7
            have I7 := hid i7; have K7 := hid k7; have H7 := hid h7; have R7 := hid r7; have BA := hid ba
            clear WW i7 k7 h7 r6 r7 ba
            refine hK.out _ _ (by exact s7) (fun hHeld => ?_)
            clear hK K
            try simp only [Act.put, List.setIfInBounds_toArray, List.set_cons_zero, List.set_cons_succ]
            refine wpAnyH_take (i := 10) (oi := ?o10z3) (v := ?v10z3) ?hi10z3 (by kernel_rfl) (by kernel_rfl) ?hr10z3 ?hQ10z3 ?hy10z3 hHeld ?r10z3
            case hi10z3 => (simp only [List.getElem?_toArray, List.getElem?_cons_zero, List.getElem?_cons_succ]; rfl)
            case hr10z3 => kernel_rfl
            case hQ10z3 => exact fun _ _ _ h => h
            case hy10z3 => (refine Or.inl ⟨by rfl, ?_⟩; intro w hSw; (try dsimp only at hSw); go_simp; try with_reducible rfl)
            try simp only [Act.put, List.setIfInBounds_toArray, List.set_cons_zero, List.set_cons_succ]
            refine wpAnyH_done (by kernel_rfl) ?_ _
            clear s6 s7 sX hwr hna hmk
            have hkw : Kpt S w w7 := ((HKK.out.trans (Kpt.of_below (below_dr wr))).trans (Kpt.of_below BA.out)).upP K7.out (fun b hb => (HSK.out b hb).imp id Nat.le_of_lt)
            have hs7 : ∀ b, S7 b → S b ∨ w.heap.size < b := fun b hb => by
              rcases H7.out b hb with h | h
              · exact HSK.out b h
              · have := BA.out.size
                have := heap_in hrD
                exact .inr (by omega)
            have HKW := hid hkw; have HS7 := hid hs7
            clear hkw hs7
            cases hsp : dk.spent with
            | true => as_aux_lemma =>
              have hi := I7.out
              rw [hsp] at hi
              simp only [if_true] at hi ⊢
              have he := HR.out
              unfold emRun at he
              rw [if_pos hsp] at he
              have HE := hid he; have HI7 := hid hi
              clear hi hsp he
              go_wp2
              go_ret
              rw [HE0.out, ← HE.out]
              exact ⟨rfl, S7, HI7.out, HKW.out, fun b hb => (HS7.out b hb).imp id Nat.le_of_lt⟩
            | false => as_aux_lemma =>
              have hi := I7.out
              rw [hsp] at hi
              simp only [Bool.false_eq_true, if_false] at hi ⊢
              have he := HR.out
              unfold emRun at he
              rw [if_neg (by rw [hsp]; decide)] at he
              obtain ⟨p1, p2, p3⟩ := put_len dk (ino + j) (zeros 4096)
              rw [HLEN.out] at p1
              have HE := hid he; have HI7 := hid hi; have HP7 := hid (And.intro p1 (And.intro p2 p3))
              clear hi hsp he p1 p2 p3
              go_wp2_with fail
              go_roundw
              case rel => exact ⟨j + 1, dk.tick.put (ino + j) (zeros 4096), S7, by omega, by go_num, HE.out, HI7.out, HKW.out, HS7.out, R7.out, HP7.out.1, by have := HP7.out.2.2; have := HLT.out.1; omega, by have := HP7.out.2.1; have := HLT.out.2; omega⟩
              case measure => simp [intOf]; omega
          · obtain rfl : j = ib := by omega
            rw [List.drop_of_length_le (by simp)] at hR
            have HR := hid hR; have HI9 := hid hi; have HK9 := hid hkk; have HS9 := hid hsk
            clear hR hi hkk hsk hrow hlen hleft hdid y0 y1 y2 y3 y4 y5 y6
            go_wp2
            go_ret
            rw [HE0.out, ← HR.out]
            exact ⟨rfl, Sk, HI9.out, HK9.out, fun b hb => (HS9.out b hb).imp id Nat.le_of_lt⟩
end Go.Proofs.Ytahlhdhljjpeoaa

/- Truths, of which a part is set (plain); the least hole that is enough; what is found. -/
namespace Go.Proofs.Ytahlhdhljjpeoaa
open Go.RowKit
set_option maxHeartbeats 1000000
set_option maxRecDepth 100000
set_option linter.unusedVariables false
set_option linter.unusedSimpArgs false

/-- From st on n of them are v. -/
def setU (u : List Bool) (st n : Nat) (v : Bool) : List Bool := (List.range u.length).map fun j => if st ≤ j ∧ j < st + n then v else u.getD j false
theorem setU_length (u : List Bool) (st n : Nat) (v : Bool) : (setU u st n v).length = u.length := by simp [setU]
theorem setU_at (u : List Bool) (st n : Nat) (v : Bool) (j : Nat) (h : j < u.length) : (setU u st n v)[j]? = some (if st ≤ j ∧ j < st + n then v else u.getD j false) := by simp [setU, h]
theorem setU_getD (u : List Bool) (st n : Nat) (v : Bool) (j : Nat) (h : j < u.length) : (setU u st n v).getD j false = if st ≤ j ∧ j < st + n then v else u.getD j false := by
  rw [List.getD_eq_getElem?_getD, setU_at _ _ _ _ _ h]
  rfl
theorem bools_ext {u v : List Bool} (hl : u.length = v.length) (h : ∀ j, j < u.length → u.getD j false = v.getD j false) : u = v := by
  refine List.ext_getElem hl fun k h3 h4 => ?_
  have := h k h3
  simp only [List.getD_eq_getElem?_getD, List.getElem?_eq_getElem h3, List.getElem?_eq_getElem h4, Option.getD_some] at this
  exact this
theorem setU_zero (u : List Bool) (st : Nat) (v : Bool) : setU u st 0 v = u := by
  refine bools_ext (setU_length _ _ _ _) fun j hj => ?_
  rw [setU_length] at hj
  rw [setU_getD _ _ _ _ _ hj, if_neg (by omega)]
theorem getD_set (u : List Bool) (k j : Nat) (v : Bool) (hj : j < u.length) : (u.set k v).getD j false = if k = j then v else u.getD j false := by
  rw [List.getD_eq_getElem?_getD, List.getElem?_set]
  by_cases e : k = j
  · subst e; simp [hj]
  · rw [if_neg e, if_neg e, List.getD_eq_getElem?_getD]
theorem setU_succ (u : List Bool) (st n : Nat) (v : Bool) : (setU u st n v).set (st + n) v = setU u st (n + 1) v := by
  refine bools_ext (by rw [List.length_set, setU_length, setU_length]) fun j hj => ?_
  rw [List.length_set] at hj
  rw [getD_set _ _ _ _ hj]
  rw [setU_length] at hj
  rw [setU_getD _ _ _ _ _ hj, setU_getD _ _ _ _ _ hj]
  by_cases e : st + n = j
  · rw [if_pos e, if_pos (by omega)]
  · rw [if_neg e]
    by_cases h2 : st ≤ j ∧ j < st + n
    · rw [if_pos h2, if_pos (by omega)]
    · rw [if_neg h2, if_neg (by omega)]
theorem part_no (u : List Bool) (st n : Nat) (h : st + n ≤ u.length) : ((u.drop st).take n).contains false = !((List.range n).all fun k => u.getD (st + k) false) := by
  have hm : ∀ x, x ∈ (u.drop st).take n ↔ ∃ k, k < n ∧ u.getD (st + k) false = x := by
    intro x
    rw [List.mem_iff_getElem?]
    constructor
    · rintro ⟨k, hk⟩
      rw [List.getElem?_take] at hk
      split at hk
      · rename_i hlt
        rw [List.getElem?_drop] at hk
        exact ⟨k, hlt, by rw [List.getD_eq_getElem?_getD, hk]; rfl⟩
      · cases hk
    · rintro ⟨k, hk, e⟩
      refine ⟨k, ?_⟩
      rw [List.getElem?_take, if_pos hk, List.getElem?_drop]
      rw [List.getD_eq_getElem?_getD] at e
      have h3 : st + k < u.length := by omega
      rw [List.getElem?_eq_getElem h3] at e ⊢
      exact congrArg some e
  cases hA : (List.range n).all fun k => u.getD (st + k) false with
  | true =>
    rw [Bool.not_true, Bool.eq_false_iff]
    intro hc
    rw [List.contains_iff_mem, hm] at hc
    obtain ⟨k, hk, e⟩ := hc
    have := List.all_eq_true.1 hA k (List.mem_range.2 hk)
    rw [e] at this
    cases this
  | false =>
    rw [Bool.not_false, List.contains_iff_mem, hm]
    obtain ⟨k, hk, e⟩ := List.all_eq_false.1 hA
    exact ⟨k, List.mem_range.1 hk, by simpa using e⟩
end Go.Proofs.Ytahlhdhljjpeoaa
