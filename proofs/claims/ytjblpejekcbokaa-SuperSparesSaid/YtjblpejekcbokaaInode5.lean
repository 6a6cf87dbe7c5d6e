/- The document's GetInode. -/
import Derived.Test.YtjblpejekcbokaaInode4
namespace Go.Proofs.Ytjblpejekcbokaa
open Go.RowKit
set_option maxHeartbeats 8000000
set_option linter.unusedVariables false
set_option linter.unusedSimpArgs false

theorem rnumber4_any (w : World) (a : Option Addr) (c N : Nat) (l : List UInt8) (hN : N = l.length) (p : Int) (hl : l.length ≤ 200000000000000) (hr : RdB w a l) (hp : -9223372036854775808 ≤ p ∧ p ≤ 9223372036854775807) :
    Calls Try.prog 56 #[.slice a N c, .int .i64 p, .int .i64 4] w fun e w' => e = .returned (.int .i64 (numV l p 4 : Nat)) ∧ w = w' := by
  have hlt : numV l p 4 < 4294967296 := numV_lt l p 4
  have h := rnumber_any w a c N l hN p 4 4 rfl hl hr hp (by decide)
  rw [w64_nat _ (by omega)] at h
  exact h
set_option maxRecDepth 100000 in
theorem refGetInode_any (w : World) (a : Option Addr) (c N : Nat) (l : List UInt8) (hN : N = l.length) (hl : l.length ≤ 200000000000000) (hr : RdB w a l) :
    Calls Try.prog 32 #[.slice a N c] w fun e w' => ∃ A c', e = .returned (.tuple #[(gotInd l).val A c', .int .i64 (gerrInd l)]) ∧ OwnX w.heap.size w' A c' (gotInd l).dir ∧ Below w.heap.size w w' := by
  subst hN
  by_cases h64 : l.length = 64
  rotate_left
  · have hg := hid (ind_no (not_ind_len (b := l) h64))
    rw [hg.out.1, hg.out.2]
    have hb : ((l.length : Int) == 64) = false := by rw [beq_eq_false_iff_ne]; omega
    have h2' : ¬ (l.length : Int) = 64 := by omega
    clear hg h64
    go_enter Try.func32, Try.ntmps32
    go_wp2
    refine bodyPost_ret (v := .tuple #[(⟨0, 0, 0, 0, []⟩ : Ind).val none 0, .int .i64 30]) ?_ rfl ⟨none, 0, rfl, OwnX.nil _ _, (Below.refl _ w).alloc (Nat.le_refl _) _⟩
    simp [results, Try.results32, go_sem, Ind.val, indCells]
  by_cases hb3 : (bat l 1).toNat ≤ 3
  · have h1 := numV_lt l 2 2; have h2 := numV_lt l 4 4; have h3 := numV_lt l 26 2
    have hb0 := bat_lt l 0; have hb1 := bat_lt l 1
    have hi := readInd_in l
    have hri := hid (show readInd l = ⟨(bat l 0).toNat, (numV l 2 2 : Nat), (numV l 4 4 : Nat), (numV l 26 2 : Nat), xsAtB l 8 (min (bat l 1).toNat 3)⟩ from rfl)
    obtain ⟨B, off, rfl, hcs⟩ := hr.at_ (by intro e; rw [e] at h64; simp at h64)
    have v0 := hcs 0 (by omega)
    rw [Nat.add_zero] at v0
    have v1 := hcs 1 (by omega)
    clear hcs
    have hU := fun w (hr : RdB w (some ⟨B, off, none⟩) l) => rnumber2_any w (some ⟨B, off, none⟩) c 64 l h64.symm 2 hl hr (by decide)
    have hU4 := fun w (hr : RdB w (some ⟨B, off, none⟩) l) => rnumber4_any w (some ⟨B, off, none⟩) c 64 l h64.symm 4 hl hr (by decide)
    have hU26 := fun w (hr : RdB w (some ⟨B, off, none⟩) l) => rnumber2_any w (some ⟨B, off, none⟩) c 64 l h64.symm 26 hl hr (by decide)
    have hT := fun w (hr : RdB w (some ⟨B, off, none⟩) l) => read_any w (some ⟨B, off, none⟩) c 64 l h64.symm hl hr 8 (by decide) (min (bat l 1).toNat 3) (by omega)
    have hxl := hid (xsAtB_length l 8 (min (bat l 1).toNat 3))
    have H64 := hid h64
    rw [h64]
    clear h64
    generalize xsAtB l 8 (min (bat l 1).toNat 3) = X at *
    generalize numV l 2 2 = n2 at *
    generalize numV l 4 4 = n4 at *
    generalize numV l 26 2 = n26 at *
    generalize (bat l 0).toNat = b0 at *
    generalize (bat l 1).toNat = b1 at *
    rw [Nat.min_eq_left hb3] at hT hxl
    have hxl' := hxl.out
    clear hxl
    subst hxl'
    have v1a := cell_below ((Below.refl _ w).alloc (Nat.le_refl _) (.cells #[.int .u8 0, .int .i64 0, .int .i64 0, .slice none 0 0, .int .i64 0] 27)) v1
    obtain ⟨vw, hvw⟩ : ∃ vw, vw = w.alloc (.cells #[.int .u8 0, .int .i64 0, .int .i64 0, .slice none 0 0, .int .i64 0] 27) := ⟨_, rfl⟩
    have bv : Below w.heap.size w vw := by rw [hvw]; exact (Below.refl _ w).alloc (Nat.le_refl _) _
    have hres := hid (show vw.heap[w.heap.size]? = some (.cells #[.int .u8 0, .int .i64 0, .int .i64 0, .slice none 0 0, .int .i64 0] 27 (0, 0)) by rw [hvw]; exact heap_alloc_new w _)
    go_enter Try.func32, Try.ntmps32
    go_wp2_with fail
    rw [← hvw]
    have hrv := hr.below bv
    have hrvd : RdB vw.drew (some ⟨B, off, none⟩) l := hrv
    have sv : vw.cell? ⟨B, off, none⟩ = some (.int .u8 (b0 : Int)) ∧ vw.cell? ⟨B, off + 1, none⟩ = some (.int .u8 (X.length : Int)) := ⟨cell_below bv v0, cell_below bv v1⟩
    clear hvw v0 v1 v1a
    have hw4 : IntKind.i64.wrap (X.length : Int) = (X.length : Int) := IntWalk.i64_in _ (by omega)
    have svd : vw.drew.cell? ⟨B, off, none⟩ = some (.int .u8 (b0 : Int)) ∧ vw.drew.cell? ⟨B, off + 1, none⟩ = some (.int .u8 (X.length : Int)) := sv
    have sva : ∀ o, (vw.alloc o).drew.cell? ⟨B, off, none⟩ = some (.int .u8 (b0 : Int)) ∧ (vw.alloc o).drew.cell? ⟨B, off + 1, none⟩ = some (.int .u8 (X.length : Int)) := fun o => (show (vw.alloc o).cell? ⟨B, off, none⟩ = some (.int .u8 (b0 : Int)) ∧ (vw.alloc o).cell? ⟨B, off + 1, none⟩ = some (.int .u8 (X.length : Int)) from keep2 sv ((Below.refl _ _).alloc (Nat.le_refl _) o))
    have hBlt : B < vw.heap.size := World.block_lt_of_cell? vw _ sv.1
    have hrva : ∀ o, RdB (vw.alloc o).drew (some ⟨B, off, none⟩) l := fun o => hrv.alloc o
    go_cut [4] (fun s wx => ∃ (g : Nat) (A1 : Option Addr) (c1 : Nat), s = .pointer (some ⟨g, 0, none⟩) ∧ vw.heap.size ≤ g ∧ wx.heap[g]? = some (.cells #[.int .u8 (b0 : Int), .int .i64 (n2 : Int), .int .i64 (n4 : Int), .slice A1 X.length c1, .int .i64 (n26 : Int)] 27 (0, 0)) ∧ OwnX vw.heap.size wx A1 c1 X ∧ Below vw.heap.size vw wx)
    case first =>
      go_region_held3 (fun W => W.cell? ⟨B, off, none⟩ = some (.int .u8 (b0 : Int)) ∧ W.cell? ⟨B, off + 1, none⟩ = some (.int .u8 (X.length : Int)))
        (first | (with_reducible exact keep_set5 s1 hBlt) | (with_reducible exact sv) | (with_reducible exact svd) | (with_reducible exact sva _) | (with_reducible exact s1) | (with_reducible exact keep2 s1 ((Below.refl _ _).alloc (Nat.le_refl _) _)))
        (first
        | (go_at_call_of 56 (Value.int IntKind.i64 26); (first | (with_reducible refine (hU26 _ hrvd).mono ?_) | (with_reducible refine (hU26 _ (hrva _)).mono ?_) | (with_reducible refine (hU26 _ hr1).mono ?_) | (with_reducible refine (hU26 _ (hr1a _)).mono ?_)); rintro e w' ⟨rfl, rfl⟩)
        | (go_at_call_of 56 (Value.int IntKind.i64 4); (first | (with_reducible refine (hU4 _ hrvd).mono ?_) | (with_reducible refine (hU4 _ (hrva _)).mono ?_) | (with_reducible refine (hU4 _ hr1).mono ?_) | (with_reducible refine (hU4 _ (hr1a _)).mono ?_)); rintro e w' ⟨rfl, rfl⟩)
        | (go_at_call_of 56 (Value.int IntKind.i64 2); (first | (with_reducible refine (hU _ hrvd).mono ?_) | (with_reducible refine (hU _ (hrva _)).mono ?_) | (with_reducible refine (hU _ hr1).mono ?_) | (with_reducible refine (hU _ (hr1a _)).mono ?_)); rintro e w' ⟨rfl, rfl⟩)
        | (go_at_call 57; (with_reducible refine (hT vw.drew hrvd).mono ?_); rintro e w1 ⟨A1, c1, rfl, g1, bb1⟩; have s1 := keep2 svd bb1; have hr1 := RdB.below hrvd bb1; have hr1a := fun o => RdB.alloc hr1 o)
        | (go_at_call 57; (with_reducible refine (hT (vw.alloc _).drew (hrva _)).mono ?_); rintro e w1 ⟨A1, c1, rfl, g1, bb1⟩; have s1 := keep2 (sva _) bb1; have hr1 := RdB.below (hrva _) bb1; have hz : w1.heap[vw.heap.size]? = some (.cells #[.int .u8 0, .int .i64 0, .int .i64 0, .slice none 0 0, .int .i64 0] 27 (0, 0)) := (bb1.block vw.heap.size (by simp)).trans (heap_alloc_new vw _); obtain ⟨z0, z1, z2, z3, z4⟩ := five hz; have q0 := free_of_row hz 0; have q1 := free_of_row hz 1; have q2 := free_of_row hz 2; have q3 := free_of_row hz 3; have q4 := free_of_row hz 4; have HZ := hid hz; clear hz))
      all_goals (go_wp2_with fail; go_meet)
      · exact ⟨w1.heap.size, A1, c1, rfl, bb1.size, heap_alloc_new w1 _, g1.below ((Below.refl _ _).alloc (Nat.le_refl _) _), (below_drew' bb1).alloc bb1.size _⟩
      · exact ⟨w1.heap.size, A1, c1, rfl, bb1.size, heap_alloc_new w1 _, g1.below ((Below.refl _ _).alloc (Nat.le_refl _) _), (below_drew' bb1).alloc bb1.size _⟩
      all_goals
        have g1' := g1.mono (show vw.heap.size + 1 ≤ _ by simp)
        have bb1' : Below vw.heap.size vw w1 := (((Below.refl _ vw).alloc (Nat.le_refl _) _).trans ((below_drew' bb1).mono (by simp)))
        exact ⟨vw.heap.size, A1, c1, rfl, Nat.le_refl _, row_set5 HZ.out, (own_set5 g1' (Nat.lt_succ_self _)).mono (Nat.le_succ _), below_set5 bb1' (Nat.le_refl _)⟩
    case rest =>
      obtain ⟨g, A1, c1, rfl, hg1, hg2, hg3, hg4⟩ := hcut
      have HRI := hid (show readInd l = ⟨b0, n2, n4, n26, X⟩ from hri.out)
      have hi' : (⟨b0, n2, n4, n26, X⟩ : Ind).in_ := by rw [← HRI.out]; exact hi
      have hres2 := hid ((hg4.block w.heap.size (heap_lt hres.out)).trans hres.out)
      have hr2 := hrv.below hg4
      have HI := hid hi'
      obtain ⟨x0, x1, x2, x3, x4⟩ := five hg2
      have HG2 := hid hg2
      have hgw := hid (show g ≠ w.heap.size by have := heap_lt hres.out; omega)
      clear hU hU4 hU26 hT hi hi' svd sv sva hrva hrv hrvd hw4 hri hg2
      go_wp2_with fail
      refine (refPutInode_any _ ⟨b0, n2, n4, n26, X⟩ A1 c1 HI.out hg3.rd).mono ?_
      have hisI : isInd l = (okInd (readInd l) && (indB (readInd l) == l)) := rfl
      rw [HRI.out] at hisI
      have HIS := hid hisI; clear hisI
      have hgot : isInd l = true → gotInd l = ⟨b0, n2, n4, n26, X⟩ ∧ gerrInd l = 0 := by rw [← HRI.out]; exact ind_yes
      have HGO := hid hgot; clear hgot
      by_cases hok : okInd ⟨b0, n2, n4, n26, X⟩ = true
      · have hp := hid (show putInd ⟨b0, n2, n4, n26, X⟩ = indB ⟨b0, n2, n4, n26, X⟩ by rw [putInd, if_pos hok])
        rw [show errInd ⟨b0, n2, n4, n26, X⟩ = 0 by rw [errInd, if_pos hok], hp.out]
        rintro e w2 ⟨A2, c2, rfl, g2, b2⟩
        have bw2 := hg4.trans (b2.mono hg4.size)
        have bww := bv.trans (bw2.mono bv.size)
        have hres3 := kept1 b2 hres2.out
        have hrow3 := kept1 b2 HG2.out
        obtain ⟨x0, x1, x2, x3, x4⟩ := five hrow3
        obtain ⟨z0, z1, z2, z3, z4⟩ := five hres3
        have q0 := free_of_row hres3 0; have q1 := free_of_row hres3 1; have q2 := free_of_row hres3 2; have q3 := free_of_row hres3 3; have q4 := free_of_row hres3 4
        have g3 := hg3.below b2
        clear hres3 hrow3
        go_wp2_with fail
        refine (SameBytes_any _ _ _ _ _ _ _ (indB ⟨b0, n2, n4, n26, X⟩) l rfl H64.out.symm g2.rd (hr2.below b2)).mono ?_
        by_cases heq : (indB ⟨b0, n2, n4, n26, X⟩ == l) = true
        · rw [heq]
          rintro e w' ⟨rfl, rfl⟩
          have HGI := hid (HGO.out (by rw [HIS.out, hok, heq]; rfl))
          have hgb := hid (heap_lt hres.out)
          go_wp2_with fail
          rw [HGI.out.1, HGI.out.2]
          refine bodyPost_ret (v := .tuple #[(⟨b0, n2, n4, n26, X⟩ : Ind).val A1 c1, .int .i64 0]) ?_ rfl ⟨A1, c1, rfl, ?_, ?_⟩
          · simp [results, Try.results32, go_sem, Ind.val, indCells, z0, z1, z2, z3, z4]
          · exact (((((g3.setOther hgb.out _ _).setOther hgb.out _ _).setOther hgb.out _ _).setOther hgb.out _ _).setOther hgb.out _ _).mono bv.size
          · exact ((((bww.setCell (Nat.le_refl _) _).setCell (Nat.le_refl _) _).setCell (Nat.le_refl _) _).setCell (Nat.le_refl _) _).setCell (Nat.le_refl _) _
        · rw [eq_false_of_ne_true heq]
          rintro e w' ⟨rfl, rfl⟩
          have HGI := hid (ind_no (b := l) (by rw [HIS.out, eq_false_of_ne_true heq, Bool.and_false]))
          go_wp2_with fail
          rw [HGI.out.1, HGI.out.2]
          refine bodyPost_ret (v := .tuple #[(⟨0, 0, 0, 0, []⟩ : Ind).val none 0, .int .i64 30]) ?_ rfl ⟨none, 0, rfl, OwnX.nil _ _, ?_⟩
          · simp [results, Try.results32, go_sem, Ind.val, indCells, z0, z1, z2, z3, z4]
          · exact ((((bww.setCell (Nat.le_refl _) _).setCell (Nat.le_refl _) _).setCell (Nat.le_refl _) _).setCell (Nat.le_refl _) _).setCell (Nat.le_refl _) _
      · have hok := eq_false_of_ne_true hok
        rw [show errInd ⟨b0, n2, n4, n26, X⟩ = 2 by rw [errInd, hok]; rfl]
        rintro e w2 ⟨A2, c2, rfl, g2, b2⟩
        have bw2 := hg4.trans (b2.mono hg4.size)
        have bww := bv.trans (bw2.mono bv.size)
        have hres3 := kept1 b2 hres2.out
        obtain ⟨z0, z1, z2, z3, z4⟩ := five hres3
        have q0 := free_of_row hres3 0; have q1 := free_of_row hres3 1; have q2 := free_of_row hres3 2; have q3 := free_of_row hres3 3; have q4 := free_of_row hres3 4
        clear hres3
        have HGI := hid (ind_no (b := l) (by rw [HIS.out, hok, Bool.false_and]))
        go_wp2_with fail
        rw [HGI.out.1, HGI.out.2]
        refine bodyPost_ret (v := .tuple #[(⟨0, 0, 0, 0, []⟩ : Ind).val none 0, .int .i64 30]) ?_ rfl ⟨none, 0, rfl, OwnX.nil _ _, ?_⟩
        · simp [results, Try.results32, go_sem, Ind.val, indCells, z0, z1, z2, z3, z4]
        · exact ((((bww.setCell (Nat.le_refl _) _).setCell (Nat.le_refl _) _).setCell (Nat.le_refl _) _).setCell (Nat.le_refl _) _).setCell (Nat.le_refl _) _
  · have hg := hid (ind_no (not_ind_many (b := l) (by omega)))
    rw [hg.out.1, hg.out.2]
    obtain ⟨B, off, rfl, hcs⟩ := hr.at_ (by intro e; rw [e] at h64; simp at h64)
    have v1 := cell_below ((Below.refl _ w).alloc (Nat.le_refl _) (.cells #[.int .u8 0, .int .i64 0, .int .i64 0, .slice none 0 0, .int .i64 0] 27)) (hcs 1 (by omega))
    have hb := bat_lt l 1
    rw [h64]
    clear hg h64 hcs hr
    generalize (bat l 1).toNat = b1 at *
    go_enter Try.func32, Try.ntmps32
    go_wp2
    refine bodyPost_ret (v := .tuple #[(⟨0, 0, 0, 0, []⟩ : Ind).val none 0, .int .i64 30]) ?_ rfl ⟨none, 0, rfl, OwnX.nil _ _, (Below.refl _ w).alloc (Nat.le_refl _) _⟩
    simp [results, Try.results32, go_sem, Ind.val, indCells]
end Go.Proofs.Ytjblpejekcbokaa
