/- GetInode. -/
import Derived.Test.YtjblpejekcbokaaInode3
import Derived.Test.YtjblpejekcbokaaSetO
namespace Go.Proofs.Ytjblpejekcbokaa
open Go.RowKit
set_option maxHeartbeats 8000000
set_option linter.unusedVariables false
set_option linter.unusedSimpArgs false

/-- The inode that bytes say they are. -/
def readInd (b : List UInt8) : Ind := ⟨(bat b 0).toNat, (numV b 2 2 : Nat), (numV b 4 4 : Nat), (numV b 26 2 : Nat), xsAtB b 8 (min (bat b 1).toNat 3)⟩
def isInd (b : List UInt8) : Bool := okInd (readInd b) && (indB (readInd b) == b)
def gotInd (b : List UInt8) : Ind := if isInd b then readInd b else ⟨0, 0, 0, 0, []⟩
def gerrInd (b : List UInt8) : Int := if isInd b then 0 else 30
theorem ind_no {b : List UInt8} (h : isInd b = false) : gotInd b = ⟨0, 0, 0, 0, []⟩ ∧ gerrInd b = 30 := by simp [gotInd, gerrInd, h]
theorem ind_yes {b : List UInt8} (h : isInd b = true) : gotInd b = readInd b ∧ gerrInd b = 0 := by simp [gotInd, gerrInd, h]
theorem not_ind_len {b : List UInt8} (h : b.length ≠ 64) : isInd b = false := by
  unfold isInd
  by_cases ho : okInd (readInd b) = true
  · have := indB_length (okInd_len ho)
    rw [ho, Bool.true_and, beq_eq_false_iff_ne]
    rintro e; rw [e] at this; exact h this
  · simp [eq_false_of_ne_true ho]
theorem indB_at1 {n : Ind} (hk : n.k ≠ 0) : bat (indB n) 1 = byteOf n.dir.length := by
  simp [indB, hk, indM, indF, bat]
theorem not_ind_many {b : List UInt8} (h : 3 < (bat b 1).toNat) : isInd b = false := by
  unfold isInd
  by_cases ho : okInd (readInd b) = true
  · rw [ho, Bool.true_and, beq_eq_false_iff_ne]
    intro e
    have hd : (readInd b).dir.length = 3 := by simp [readInd, xsAtB_length]; omega
    by_cases hk : (readInd b).k = 0
    · unfold okInd at ho
      rw [if_pos hk, decide_eq_true_eq] at ho
      omega
    · have := indB_at1 hk
      rw [e, hd] at this
      rw [this] at h
      simp [byteOf] at h
  · simp [eq_false_of_ne_true ho]
theorem readInd_in (b : List UInt8) : (readInd b).in_ := by
  have h0 := bat_lt b 0
  have h1 := numV_lt b 2 2; have h2 := numV_lt b 4 4; have h3 := numV_lt b 26 2
  refine ⟨h0, ?_, ?_, ?_, ?_, okX_xsAtB _ _ _⟩
  all_goals simp only [readInd, xsAtB_length]
  all_goals omega
theorem keep_set5 {w : World} {g B o1 o2 : Nat} {a b v0 v1 v2 v3 v4 : Value} (h : w.cell? ⟨B, o1, none⟩ = some a ∧ w.cell? ⟨B, o2, none⟩ = some b) (hB : B < g) :
    (((((w.setCell ⟨g, 0, none⟩ v0).setCell ⟨g, 1, none⟩ v1).setCell ⟨g, 2, none⟩ v2).setCell ⟨g, 3, none⟩ v3).setCell ⟨g, 4, none⟩ v4).cell? ⟨B, o1, none⟩ = some a ∧ (((((w.setCell ⟨g, 0, none⟩ v0).setCell ⟨g, 1, none⟩ v1).setCell ⟨g, 2, none⟩ v2).setCell ⟨g, 3, none⟩ v3).setCell ⟨g, 4, none⟩ v4).cell? ⟨B, o2, none⟩ = some b := by
  have bl : Below g w (((((w.setCell ⟨g, 0, none⟩ v0).setCell ⟨g, 1, none⟩ v1).setCell ⟨g, 2, none⟩ v2).setCell ⟨g, 3, none⟩ v3).setCell ⟨g, 4, none⟩ v4) := (((((Below.refl g w).setCell (Nat.le_refl _) _).setCell (Nat.le_refl _) _).setCell (Nat.le_refl _) _).setCell (Nat.le_refl _) _).setCell (Nat.le_refl _) _
  exact ⟨(bl.cell (p := ⟨B, o1, none⟩) hB).trans h.1, (bl.cell (p := ⟨B, o2, none⟩) hB).trans h.2⟩
theorem row_set5 {w : World} {g : Nat} {t : TypeId} {x0 x1 x2 x3 x4 v0 v1 v2 v3 v4 : Value} (h : w.heap[g]? = some (.cells #[x0, x1, x2, x3, x4] t (0, 0))) :
    (((((w.setCell ⟨g, 0, none⟩ v0).setCell ⟨g, 1, none⟩ v1).setCell ⟨g, 2, none⟩ v2).setCell ⟨g, 3, none⟩ v3).setCell ⟨g, 4, none⟩ v4).heap[g]? = some (.cells #[v0, v1, v2, v3, v4] t (0, 0)) :=
  heap_setCell_same _ _ _ _ _ _ (heap_setCell_same _ _ _ _ _ _ (heap_setCell_same _ _ _ _ _ _ (heap_setCell_same _ _ _ _ _ _ (heap_setCell_same _ _ _ _ _ _ h))))
theorem own_set5 {w : World} {g base : Nat} {A : Option Addr} {c : Nat} {l : List Ext} {v0 v1 v2 v3 v4 : Value} (h : OwnX base w A c l) (hg : g < base) : OwnX base (((((w.setCell ⟨g, 0, none⟩ v0).setCell ⟨g, 1, none⟩ v1).setCell ⟨g, 2, none⟩ v2).setCell ⟨g, 3, none⟩ v3).setCell ⟨g, 4, none⟩ v4) A c l :=
  ((((h.setOther hg _ _).setOther hg _ _).setOther hg _ _).setOther hg _ _).setOther hg _ _
theorem below_set5 {v w : World} {g base : Nat} {v0 v1 v2 v3 v4 : Value} (h : Below base v w) (hg : base ≤ g) : Below base v (((((w.setCell ⟨g, 0, none⟩ v0).setCell ⟨g, 1, none⟩ v1).setCell ⟨g, 2, none⟩ v2).setCell ⟨g, 3, none⟩ v3).setCell ⟨g, 4, none⟩ v4) :=
  ((((h.setCell hg _).setCell hg _).setCell hg _).setCell hg _).setCell hg _
set_option maxRecDepth 100000 in
theorem GetInode_any (w : World) (a : Option Addr) (c N : Nat) (l : List UInt8) (hN : N = l.length) (hl : l.length ≤ 200000000000000) (hr : RdB w a l) :
    Calls Try.prog 28 #[.slice a N c] w fun e w' => ∃ A c', e = .returned (.tuple #[(gotInd l).val A c', .int .i64 (gerrInd l)]) ∧ OwnX w.heap.size w' A c' (gotInd l).dir ∧ Below w.heap.size w w' := by
  subst hN
  by_cases h64 : l.length = 64
  · have h1 := numV_lt l 2 2; have h2 := numV_lt l 4 4; have h3 := numV_lt l 26 2
    have hb0 := bat_lt l 0; have hb1 := bat_lt l 1
    have hi := readInd_in l
    have hri := hid (show readInd l = ⟨(bat l 0).toNat, (numV l 2 2 : Nat), (numV l 4 4 : Nat), (numV l 26 2 : Nat), xsAtB l 8 (min (bat l 1).toNat 3)⟩ from rfl)
    obtain ⟨B, off, rfl, hcs⟩ := hr.at_ (by intro e; rw [e] at h64; simp at h64)
    have v0 := hcs 0 (by omega)
    rw [Nat.add_zero] at v0
    have v1 := hcs 1 (by omega)
    clear hcs
    have hU := fun w (hr : RdB w (some ⟨B, off, none⟩) l) => U16_any w (some ⟨B, off, none⟩) c 64 l h64.symm 2 hl hr (by decide)
    have hU4 := fun w (hr : RdB w (some ⟨B, off, none⟩) l) => U32_any w (some ⟨B, off, none⟩) c 64 l h64.symm 4 hl hr (by decide)
    have hU26 := fun w (hr : RdB w (some ⟨B, off, none⟩) l) => U16_any w (some ⟨B, off, none⟩) c 64 l h64.symm 26 hl hr (by decide)
    have hT := fun w (hr : RdB w (some ⟨B, off, none⟩) l) => taken_any w (some ⟨B, off, none⟩) c 64 l h64.symm hl hr 8 (by decide) (min (bat l 1).toNat 3) (by omega)
    have hxl := hid (xsAtB_length l 8 (min (bat l 1).toNat 3))
    have H64 := hid h64
    rw [h64]
    clear h64
    generalize xsAtB l 8 (min (bat l 1).toNat 3) = X at *
    generalize numV l 2 2 = n2 at *
    generalize numV l 4 4 = n4 at *
    generalize numV l 26 2 = n26 at *
    generalize (bat l 0).toNat = b0 at *
    generalize (bat l 1).toNat = b1 at *
    have hmin : ∀ (ts : Array TypeId) (t : TypeId) (W : World), (Builtin.min_ ts t #[.int .i64 (b1 : Int), .int .i64 3]).run Try.prog W = .ok (.int .i64 ((min b1 3 : Nat) : Int)) W := by
      intro ts t W
      have e : (if (3 : Int) < (b1 : Int) then 3 else (b1 : Int)) = ((min b1 3 : Nat) : Int) := by split <;> omega
      rw [run_min_int2, e]
    obtain ⟨m, hm⟩ : ∃ m, m = min b1 3 := ⟨_, rfl⟩
    rw [← hm] at hT hxl hmin
    have hm3 : m ≤ 3 := by omega
    clear hm
    have hxl' := hxl.out
    clear hxl
    subst hxl'
    obtain ⟨vw, hvw⟩ : ∃ vw, vw = w.alloc (.cells #[.int .u8 0, .int .i64 0, .int .i64 0, .slice none 0 0, .int .i64 0] 27) := ⟨_, rfl⟩
    have bv : Below w.heap.size w vw := by rw [hvw]; exact (Below.refl _ w).alloc (Nat.le_refl _) _
    have hres := hid (show vw.heap[w.heap.size]? = some (.cells #[.int .u8 0, .int .i64 0, .int .i64 0, .slice none 0 0, .int .i64 0] 27 (0, 0)) by rw [hvw]; exact heap_alloc_new w _)
    go_enter Try.func28, Try.ntmps28
    go_wp2_with fail
    rw [← hvw]
    have hrv := hr.below bv
    have hrvd : RdB vw.drew (some ⟨B, off, none⟩) l := hrv
    have sv : vw.cell? ⟨B, off, none⟩ = some (.int .u8 (b0 : Int)) ∧ vw.cell? ⟨B, off + 1, none⟩ = some (.int .u8 (b1 : Int)) := ⟨cell_below bv v0, cell_below bv v1⟩
    clear hvw v0 v1
    refine (hU _ hrv).mono ?_
    rintro e w' ⟨rfl, rfl⟩
    go_wp2_with fail
    refine (hU4 _ hrv).mono ?_
    rintro e w' ⟨rfl, rfl⟩
    go_wp2_with fail
    refine (hU26 _ hrv).mono ?_
    rintro e w' ⟨rfl, rfl⟩
    have hw1 : IntKind.i64.wrap (n2 : Int) = (n2 : Int) := IntWalk.i64_in _ (by omega)
    have hw2 : IntKind.i64.wrap (n4 : Int) = (n4 : Int) := IntWalk.i64_in _ (by omega)
    have hw3 : IntKind.i64.wrap (n26 : Int) = (n26 : Int) := IntWalk.i64_in _ (by omega)
    have hw4 : IntKind.i64.wrap (b1 : Int) = (b1 : Int) := IntWalk.i64_in _ (by omega)
    go_wp2_with fail
    have svd : vw.drew.cell? ⟨B, off, none⟩ = some (.int .u8 (b0 : Int)) ∧ vw.drew.cell? ⟨B, off + 1, none⟩ = some (.int .u8 (b1 : Int)) := sv
    have sva : ∀ o, (vw.alloc o).drew.cell? ⟨B, off, none⟩ = some (.int .u8 (b0 : Int)) ∧ (vw.alloc o).drew.cell? ⟨B, off + 1, none⟩ = some (.int .u8 (b1 : Int)) := fun o => (show (vw.alloc o).cell? ⟨B, off, none⟩ = some (.int .u8 (b0 : Int)) ∧ (vw.alloc o).cell? ⟨B, off + 1, none⟩ = some (.int .u8 (b1 : Int)) from keep2 sv ((Below.refl _ _).alloc (Nat.le_refl _) o))
    have hBlt : B < vw.heap.size := World.block_lt_of_cell? vw _ sv.1
    have hrva : ∀ o, RdB (vw.alloc o).drew (some ⟨B, off, none⟩) l := fun o => hrv.alloc o
    go_cut [10] (fun s wx => ∃ (g : Nat) (A1 : Option Addr) (c1 : Nat), s = .pointer (some ⟨g, 0, none⟩) ∧ vw.heap.size ≤ g ∧ wx.heap[g]? = some (.cells #[.int .u8 (b0 : Int), .int .i64 (n2 : Int), .int .i64 (n4 : Int), .slice A1 X.length c1, .int .i64 (n26 : Int)] 27 (0, 0)) ∧ OwnX vw.heap.size wx A1 c1 X ∧ Below vw.heap.size vw wx)
    case first =>
      go_region_held3 (fun W => W.cell? ⟨B, off, none⟩ = some (.int .u8 (b0 : Int)) ∧ W.cell? ⟨B, off + 1, none⟩ = some (.int .u8 (b1 : Int)))
        (first | (with_reducible exact keep_set5 s1 hBlt) | (with_reducible exact sv) | (with_reducible exact svd) | (with_reducible exact sva _) | (with_reducible exact s1) | (with_reducible exact keep2 s1 ((Below.refl _ _).alloc (Nat.le_refl _) _)))
        (first
        | (go_at_call 52; (with_reducible refine (hT vw.drew hrvd).mono ?_); rintro e w1 ⟨A1, c1, rfl, g1, bb1⟩; have s1 := keep2 svd bb1)
        | (go_at_call 52; (with_reducible refine (hT (vw.alloc _).drew (hrva _)).mono ?_); rintro e w1 ⟨A1, c1, rfl, g1, bb1⟩; have s1 := keep2 (sva _) bb1; have hz : w1.heap[vw.heap.size]? = some (.cells #[.int .u8 0, .int .i64 0, .int .i64 0, .slice none 0 0, .int .i64 0] 27 (0, 0)) := (bb1.block vw.heap.size (by simp)).trans (heap_alloc_new vw _); obtain ⟨z0, z1, z2, z3, z4⟩ := five hz; have q0 := free_of_row hz 0; have q1 := free_of_row hz 1; have q2 := free_of_row hz 2; have q3 := free_of_row hz 3; have q4 := free_of_row hz 4; have HZ := hid hz; clear hz))
      all_goals (go_wp2_with fail; go_meet)
      · exact ⟨w1.heap.size, A1, c1, rfl, bb1.size, heap_alloc_new w1 _, g1.below ((Below.refl _ _).alloc (Nat.le_refl _) _), (below_drew' bb1).alloc bb1.size _⟩
      all_goals
        have g1' := g1.mono (show vw.heap.size + 1 ≤ _ by simp)
        have bb1' : Below vw.heap.size vw w1 := (((Below.refl _ vw).alloc (Nat.le_refl _) _).trans ((below_drew' bb1).mono (by simp)))
        exact ⟨vw.heap.size, A1, c1, rfl, Nat.le_refl _, row_set5 HZ.out, (own_set5 g1' (Nat.lt_succ_self _)).mono (Nat.le_succ _), below_set5 bb1' (Nat.le_refl _)⟩
    case rest =>
      obtain ⟨g, A1, c1, rfl, hg1, hg2, hg3, hg4⟩ := hcut
      have HRI := hid (show readInd l = ⟨b0, n2, n4, n26, X⟩ from hri.out)
      have hi' : (⟨b0, n2, n4, n26, X⟩ : Ind).in_ := by rw [← HRI.out]; exact hi
      have hres2 := hid ((hg4.block w.heap.size (heap_lt hres.out)).trans hres.out)
      have hr2 := hrv.below hg4
      have HI := hid hi'
      obtain ⟨x0, x1, x2, x3, x4⟩ := five hg2
      have HG2 := hid hg2
      have hgw := hid (show g ≠ w.heap.size by have := heap_lt hres.out; omega)
      clear hU hU4 hU26 hT hmin hi hi' svd sv sva hrva hrv hrvd hw1 hw2 hw3 hw4 hri hg2
      go_wp2_with fail
      refine (PutInode_any _ ⟨b0, n2, n4, n26, X⟩ A1 c1 HI.out hg3.rd).mono ?_
      have hisI : isInd l = (okInd (readInd l) && (indB (readInd l) == l)) := rfl
      rw [HRI.out] at hisI
      have HIS := hid hisI; clear hisI
      have hgot : isInd l = true → gotInd l = ⟨b0, n2, n4, n26, X⟩ ∧ gerrInd l = 0 := by rw [← HRI.out]; exact ind_yes
      have HGO := hid hgot; clear hgot
      by_cases hok : okInd ⟨b0, n2, n4, n26, X⟩ = true
      · have hp := hid (show putInd ⟨b0, n2, n4, n26, X⟩ = indB ⟨b0, n2, n4, n26, X⟩ by rw [putInd, if_pos hok])
        rw [show errInd ⟨b0, n2, n4, n26, X⟩ = 0 by rw [errInd, if_pos hok], hp.out]
        rintro e w2 ⟨A2, c2, rfl, g2, b2⟩
        have bw2 := hg4.trans (b2.mono hg4.size)
        have bww := bv.trans (bw2.mono bv.size)
        have hres3 := kept1 b2 hres2.out
        have hrow3 := kept1 b2 HG2.out
        obtain ⟨x0, x1, x2, x3, x4⟩ := five hrow3
        obtain ⟨z0, z1, z2, z3, z4⟩ := five hres3
        have q0 := free_of_row hres3 0; have q1 := free_of_row hres3 1; have q2 := free_of_row hres3 2; have q3 := free_of_row hres3 3; have q4 := free_of_row hres3 4
        have g3 := hg3.below b2
        clear hres3 hrow3
        go_wp2_with fail
        refine (Equal_any _ _ _ _ _ _ _ (indB ⟨b0, n2, n4, n26, X⟩) l rfl H64.out.symm g2.rd (hr2.below b2)).mono ?_
        by_cases heq : (indB ⟨b0, n2, n4, n26, X⟩ == l) = true
        · rw [heq]
          rintro e w' ⟨rfl, rfl⟩
          have HGI := hid (HGO.out (by rw [HIS.out, hok, heq]; rfl))
          have hgb := hid (heap_lt hres.out)
          go_wp2_with fail
          rw [HGI.out.1, HGI.out.2]
          refine bodyPost_ret (v := .tuple #[(⟨b0, n2, n4, n26, X⟩ : Ind).val A1 c1, .int .i64 0]) ?_ rfl ⟨A1, c1, rfl, ?_, ?_⟩
          · simp [results, Try.results28, go_sem, Ind.val, indCells, z0, z1, z2, z3, z4]
          · exact (((((g3.setOther hgb.out _ _).setOther hgb.out _ _).setOther hgb.out _ _).setOther hgb.out _ _).setOther hgb.out _ _).mono bv.size
          · exact ((((bww.setCell (Nat.le_refl _) _).setCell (Nat.le_refl _) _).setCell (Nat.le_refl _) _).setCell (Nat.le_refl _) _).setCell (Nat.le_refl _) _
        · rw [eq_false_of_ne_true heq]
          rintro e w' ⟨rfl, rfl⟩
          have HGI := hid (ind_no (b := l) (by rw [HIS.out, eq_false_of_ne_true heq, Bool.and_false]))
          go_wp2_with fail
          rw [HGI.out.1, HGI.out.2]
          refine bodyPost_ret (v := .tuple #[(⟨0, 0, 0, 0, []⟩ : Ind).val none 0, .int .i64 30]) ?_ rfl ⟨none, 0, rfl, OwnX.nil _ _, ?_⟩
          · simp [results, Try.results28, go_sem, Ind.val, indCells, z0, z1, z2, z3, z4]
          · exact ((((bww.setCell (Nat.le_refl _) _).setCell (Nat.le_refl _) _).setCell (Nat.le_refl _) _).setCell (Nat.le_refl _) _).setCell (Nat.le_refl _) _
      · have hok := eq_false_of_ne_true hok
        rw [show errInd ⟨b0, n2, n4, n26, X⟩ = 2 by rw [errInd, hok]; rfl]
        rintro e w2 ⟨A2, c2, rfl, g2, b2⟩
        have bw2 := hg4.trans (b2.mono hg4.size)
        have bww := bv.trans (bw2.mono bv.size)
        have hres3 := kept1 b2 hres2.out
        obtain ⟨z0, z1, z2, z3, z4⟩ := five hres3
        have q0 := free_of_row hres3 0; have q1 := free_of_row hres3 1; have q2 := free_of_row hres3 2; have q3 := free_of_row hres3 3; have q4 := free_of_row hres3 4
        clear hres3
        have HGI := hid (ind_no (b := l) (by rw [HIS.out, hok, Bool.false_and]))
        go_wp2_with fail
        rw [HGI.out.1, HGI.out.2]
        refine bodyPost_ret (v := .tuple #[(⟨0, 0, 0, 0, []⟩ : Ind).val none 0, .int .i64 30]) ?_ rfl ⟨none, 0, rfl, OwnX.nil _ _, ?_⟩
        · simp [results, Try.results28, go_sem, Ind.val, indCells, z0, z1, z2, z3, z4]
        · exact ((((bww.setCell (Nat.le_refl _) _).setCell (Nat.le_refl _) _).setCell (Nat.le_refl _) _).setCell (Nat.le_refl _) _).setCell (Nat.le_refl _) _
  · have hg := hid (ind_no (not_ind_len (b := l) h64))
    rw [hg.out.1, hg.out.2]
    have hb : ((l.length : Int) == 64) = false := by rw [beq_eq_false_iff_ne]; omega
    have h2' : ¬ (l.length : Int) = 64 := by omega
    clear hg h64
    go_enter Try.func28, Try.ntmps28
    go_wp2
    refine bodyPost_ret (v := .tuple #[(⟨0, 0, 0, 0, []⟩ : Ind).val none 0, .int .i64 30]) ?_ rfl ⟨none, 0, rfl, OwnX.nil _ _, (Below.refl _ w).alloc (Nat.le_refl _) _⟩
    simp [results, Try.results28, go_sem, Ind.val, indCells]
end Go.Proofs.Ytjblpejekcbokaa
