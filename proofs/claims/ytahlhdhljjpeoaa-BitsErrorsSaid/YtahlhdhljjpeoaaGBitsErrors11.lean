/- Texts joined: SetO, Inode4, BtK, BtL, Round. -/
import Derived.RangeFuncNested
import Derived.TacticsIn
import Derived.Test.YtahlhdhljjpeoaaGBitsErrors2
import Derived.Test.YtahlhdhljjpeoaaGBitsErrors6
import Derived.Test.YtahlhdhljjpeoaaGBitsErrors9
import Derived.Test.YtahlhdhljjpeoaaGBitsErrors10
/- Rows of the call's own, behind a store into another block. -/
namespace Go.Proofs.Ytahlhdhljjpeoaa
open Go.RowKit
set_option linter.unusedVariables false
theorem own_setOther {w : World} {base n : Nat} {e : TypeId} {size : Nat} {v : Value} {xs : List Value} (h : w.ownsRow base e size v n xs) {g : Nat} (hg : g < base) (j : Nat) (u : Value) : (w.setCell ⟨g, j, none⟩ u).ownsRow base e size v n xs := by
  refine h.kept (row := some g) ⟨rfl, rfl, rfl, by simp [World.setCell], fun k _ hk => heap_setCell_other _ _ _ _ (fun e => hk (by simp [e]))⟩ ?_
  cases hv : v.ownBlock with
  | none => exact .inl rfl
  | some k =>
    refine .inr ?_
    have := own_base h k hv
    simp only [ne_eq, Option.some.injEq]
    omega
theorem OwnX.setOther {w : World} {base : Nat} {A : Option Addr} {c : Nat} {l : List Ext} (h : OwnX base w A c l) {g : Nat} (hg : g < base) (j : Nat) (u : Value) : OwnX base (w.setCell ⟨g, j, none⟩ u) A c l := own_setOther h hg j u
end Go.Proofs.Ytahlhdhljjpeoaa

/- GetInode. -/
namespace Go.Proofs.Ytahlhdhljjpeoaa
open Go.RowKit
set_option maxHeartbeats 8000000
set_option linter.unusedVariables false
set_option linter.unusedSimpArgs false

/-- The inode that bytes say they are. -/
def readInd (b : List UInt8) : Ind := ⟨(bat b 0).toNat, (numV b 2 2 : Nat), (numV b 4 4 : Nat), (numV b 26 2 : Nat), xsAtB b 8 (min (bat b 1).toNat 3)⟩
def isInd (b : List UInt8) : Bool := okInd (readInd b) && (indB (readInd b) == b)
def gotInd (b : List UInt8) : Ind := if isInd b then readInd b else ⟨0, 0, 0, 0, []⟩
def gerrInd (b : List UInt8) : Int := if isInd b then 0 else 30
theorem ind_no {b : List UInt8} (h : isInd b = false) : gotInd b = ⟨0, 0, 0, 0, []⟩ ∧ gerrInd b = 30 := by simp [gotInd, gerrInd, h]
theorem ind_yes {b : List UInt8} (h : isInd b = true) : gotInd b = readInd b ∧ gerrInd b = 0 := by simp [gotInd, gerrInd, h]
theorem not_ind_len {b : List UInt8} (h : b.length ≠ 64) : isInd b = false := by
  unfold isInd
  by_cases ho : okInd (readInd b) = true
  · have := indB_length (okInd_len ho)
    rw [ho, Bool.true_and, beq_eq_false_iff_ne]
    rintro e; rw [e] at this; exact h this
  · simp [eq_false_of_ne_true ho]
theorem indB_at1 {n : Ind} (hk : n.k ≠ 0) : bat (indB n) 1 = byteOf n.dir.length := by
  simp [indB, hk, indM, indF, bat]
theorem not_ind_many {b : List UInt8} (h : 3 < (bat b 1).toNat) : isInd b = false := by
  unfold isInd
  by_cases ho : okInd (readInd b) = true
  · rw [ho, Bool.true_and, beq_eq_false_iff_ne]
    intro e
    have hd : (readInd b).dir.length = 3 := by simp [readInd, xsAtB_length]; omega
    by_cases hk : (readInd b).k = 0
    · unfold okInd at ho
      rw [if_pos hk, decide_eq_true_eq] at ho
      omega
    · have := indB_at1 hk
      rw [e, hd] at this
      rw [this] at h
      simp [byteOf] at h
  · simp [eq_false_of_ne_true ho]
theorem readInd_in (b : List UInt8) : (readInd b).in_ := by
  have h0 := bat_lt b 0
  have h1 := numV_lt b 2 2; have h2 := numV_lt b 4 4; have h3 := numV_lt b 26 2
  refine ⟨h0, ?_, ?_, ?_, ?_, okX_xsAtB _ _ _⟩
  all_goals simp only [readInd, xsAtB_length]
  all_goals omega
theorem keep_set5 {w : World} {g B o1 o2 : Nat} {a b v0 v1 v2 v3 v4 : Value} (h : w.cell? ⟨B, o1, none⟩ = some a ∧ w.cell? ⟨B, o2, none⟩ = some b) (hB : B < g) :
    (((((w.setCell ⟨g, 0, none⟩ v0).setCell ⟨g, 1, none⟩ v1).setCell ⟨g, 2, none⟩ v2).setCell ⟨g, 3, none⟩ v3).setCell ⟨g, 4, none⟩ v4).cell? ⟨B, o1, none⟩ = some a ∧ (((((w.setCell ⟨g, 0, none⟩ v0).setCell ⟨g, 1, none⟩ v1).setCell ⟨g, 2, none⟩ v2).setCell ⟨g, 3, none⟩ v3).setCell ⟨g, 4, none⟩ v4).cell? ⟨B, o2, none⟩ = some b := by
  have bl : Below g w (((((w.setCell ⟨g, 0, none⟩ v0).setCell ⟨g, 1, none⟩ v1).setCell ⟨g, 2, none⟩ v2).setCell ⟨g, 3, none⟩ v3).setCell ⟨g, 4, none⟩ v4) := (((((Below.refl g w).setCell (Nat.le_refl _) _).setCell (Nat.le_refl _) _).setCell (Nat.le_refl _) _).setCell (Nat.le_refl _) _).setCell (Nat.le_refl _) _
  exact ⟨(bl.cell (p := ⟨B, o1, none⟩) hB).trans h.1, (bl.cell (p := ⟨B, o2, none⟩) hB).trans h.2⟩
theorem row_set5 {w : World} {g : Nat} {t : TypeId} {x0 x1 x2 x3 x4 v0 v1 v2 v3 v4 : Value} (h : w.heap[g]? = some (.cells #[x0, x1, x2, x3, x4] t (0, 0))) :
    (((((w.setCell ⟨g, 0, none⟩ v0).setCell ⟨g, 1, none⟩ v1).setCell ⟨g, 2, none⟩ v2).setCell ⟨g, 3, none⟩ v3).setCell ⟨g, 4, none⟩ v4).heap[g]? = some (.cells #[v0, v1, v2, v3, v4] t (0, 0)) :=
  heap_setCell_same _ _ _ _ _ _ (heap_setCell_same _ _ _ _ _ _ (heap_setCell_same _ _ _ _ _ _ (heap_setCell_same _ _ _ _ _ _ (heap_setCell_same _ _ _ _ _ _ h))))
theorem own_set5 {w : World} {g base : Nat} {A : Option Addr} {c : Nat} {l : List Ext} {v0 v1 v2 v3 v4 : Value} (h : OwnX base w A c l) (hg : g < base) : OwnX base (((((w.setCell ⟨g, 0, none⟩ v0).setCell ⟨g, 1, none⟩ v1).setCell ⟨g, 2, none⟩ v2).setCell ⟨g, 3, none⟩ v3).setCell ⟨g, 4, none⟩ v4) A c l :=
  ((((h.setOther hg _ _).setOther hg _ _).setOther hg _ _).setOther hg _ _).setOther hg _ _
theorem below_set5 {v w : World} {g base : Nat} {v0 v1 v2 v3 v4 : Value} (h : Below base v w) (hg : base ≤ g) : Below base v (((((w.setCell ⟨g, 0, none⟩ v0).setCell ⟨g, 1, none⟩ v1).setCell ⟨g, 2, none⟩ v2).setCell ⟨g, 3, none⟩ v3).setCell ⟨g, 4, none⟩ v4) :=
  ((((h.setCell hg _).setCell hg _).setCell hg _).setCell hg _).setCell hg _
set_option maxRecDepth 100000 in
theorem GetInode_any (w : World) (a : Option Addr) (c N : Nat) (l : List UInt8) (hN : N = l.length) (hl : l.length ≤ 200000000000000) (hr : RdB w a l) :
    Calls Try.prog 58 #[.slice a N c] w fun e w' => ∃ A c', e = .returned (.tuple #[(gotInd l).val A c', .int .i64 (gerrInd l)]) ∧ OwnX w.heap.size w' A c' (gotInd l).dir ∧ Below w.heap.size w w' := by
  subst hN
  by_cases h64 : l.length = 64
  · have h1 := numV_lt l 2 2; have h2 := numV_lt l 4 4; have h3 := numV_lt l 26 2
    have hb0 := bat_lt l 0; have hb1 := bat_lt l 1
    have hi := readInd_in l
    have hri := hid (show readInd l = ⟨(bat l 0).toNat, (numV l 2 2 : Nat), (numV l 4 4 : Nat), (numV l 26 2 : Nat), xsAtB l 8 (min (bat l 1).toNat 3)⟩ from rfl)
    obtain ⟨B, off, rfl, hcs⟩ := hr.at_ (by intro e; rw [e] at h64; simp at h64)
    have v0 := hcs 0 (by omega)
    rw [Nat.add_zero] at v0
    have v1 := hcs 1 (by omega)
    clear hcs
    have hU := fun w (hr : RdB w (some ⟨B, off, none⟩) l) => U16_any w (some ⟨B, off, none⟩) c 64 l h64.symm 2 hl hr (by decide)
    have hU4 := fun w (hr : RdB w (some ⟨B, off, none⟩) l) => U32_any w (some ⟨B, off, none⟩) c 64 l h64.symm 4 hl hr (by decide)
    have hU26 := fun w (hr : RdB w (some ⟨B, off, none⟩) l) => U16_any w (some ⟨B, off, none⟩) c 64 l h64.symm 26 hl hr (by decide)
    have hT := fun w (hr : RdB w (some ⟨B, off, none⟩) l) => taken_any w (some ⟨B, off, none⟩) c 64 l h64.symm hl hr 8 (by decide) (min (bat l 1).toNat 3) (by omega)
    have hxl := hid (xsAtB_length l 8 (min (bat l 1).toNat 3))
    have H64 := hid h64
    rw [h64]
    clear h64
    generalize xsAtB l 8 (min (bat l 1).toNat 3) = X at *
    generalize numV l 2 2 = n2 at *
    generalize numV l 4 4 = n4 at *
    generalize numV l 26 2 = n26 at *
    generalize (bat l 0).toNat = b0 at *
    generalize (bat l 1).toNat = b1 at *
    have hmin : ∀ (ts : Array TypeId) (t : TypeId) (W : World), (Builtin.min_ ts t #[.int .i64 (b1 : Int), .int .i64 3]).run Try.prog W = .ok (.int .i64 ((min b1 3 : Nat) : Int)) W := by
      intro ts t W
      have e : (if (3 : Int) < (b1 : Int) then 3 else (b1 : Int)) = ((min b1 3 : Nat) : Int) := by split <;> omega
      rw [run_min_int2, e]
    obtain ⟨m, hm⟩ : ∃ m, m = min b1 3 := ⟨_, rfl⟩
    rw [← hm] at hT hxl hmin
    have hm3 : m ≤ 3 := by omega
    clear hm
    have hxl' := hxl.out
    clear hxl
    subst hxl'
    obtain ⟨vw, hvw⟩ : ∃ vw, vw = w.alloc (.cells #[.int .u8 0, .int .i64 0, .int .i64 0, .slice none 0 0, .int .i64 0] 54) := ⟨_, rfl⟩
    have bv : Below w.heap.size w vw := by rw [hvw]; exact (Below.refl _ w).alloc (Nat.le_refl _) _
    have hres := hid (show vw.heap[w.heap.size]? = some (.cells #[.int .u8 0, .int .i64 0, .int .i64 0, .slice none 0 0, .int .i64 0] 54 (0, 0)) by rw [hvw]; exact heap_alloc_new w _)
    go_enter Try.func58, Try.ntmps58
    go_wp2_with fail
    rw [← hvw]
    have hrv := hr.below bv
    have hrvd : RdB vw.drew (some ⟨B, off, none⟩) l := hrv
    have sv : vw.cell? ⟨B, off, none⟩ = some (.int .u8 (b0 : Int)) ∧ vw.cell? ⟨B, off + 1, none⟩ = some (.int .u8 (b1 : Int)) := ⟨cell_below bv v0, cell_below bv v1⟩
    clear hvw v0 v1
    refine (hU _ hrv).mono ?_
    rintro e w' ⟨rfl, rfl⟩
    go_wp2_with fail
    refine (hU4 _ hrv).mono ?_
    rintro e w' ⟨rfl, rfl⟩
    go_wp2_with fail
    refine (hU26 _ hrv).mono ?_
    rintro e w' ⟨rfl, rfl⟩
    have hw1 : IntKind.i64.wrap (n2 : Int) = (n2 : Int) := IntWalk.i64_in _ (by omega)
    have hw2 : IntKind.i64.wrap (n4 : Int) = (n4 : Int) := IntWalk.i64_in _ (by omega)
    have hw3 : IntKind.i64.wrap (n26 : Int) = (n26 : Int) := IntWalk.i64_in _ (by omega)
    have hw4 : IntKind.i64.wrap (b1 : Int) = (b1 : Int) := IntWalk.i64_in _ (by omega)
    go_wp2_with fail
    have svd : vw.drew.cell? ⟨B, off, none⟩ = some (.int .u8 (b0 : Int)) ∧ vw.drew.cell? ⟨B, off + 1, none⟩ = some (.int .u8 (b1 : Int)) := sv
    have sva : ∀ o, (vw.alloc o).drew.cell? ⟨B, off, none⟩ = some (.int .u8 (b0 : Int)) ∧ (vw.alloc o).drew.cell? ⟨B, off + 1, none⟩ = some (.int .u8 (b1 : Int)) := fun o => (show (vw.alloc o).cell? ⟨B, off, none⟩ = some (.int .u8 (b0 : Int)) ∧ (vw.alloc o).cell? ⟨B, off + 1, none⟩ = some (.int .u8 (b1 : Int)) from keep2 sv ((Below.refl _ _).alloc (Nat.le_refl _) o))
    have hBlt : B < vw.heap.size := World.block_lt_of_cell? vw _ sv.1
    have hrva : ∀ o, RdB (vw.alloc o).drew (some ⟨B, off, none⟩) l := fun o => hrv.alloc o
    go_cut [10] (fun s wx => ∃ (g : Nat) (A1 : Option Addr) (c1 : Nat), s = .pointer (some ⟨g, 0, none⟩) ∧ vw.heap.size ≤ g ∧ wx.heap[g]? = some (.cells #[.int .u8 (b0 : Int), .int .i64 (n2 : Int), .int .i64 (n4 : Int), .slice A1 X.length c1, .int .i64 (n26 : Int)] 54 (0, 0)) ∧ OwnX vw.heap.size wx A1 c1 X ∧ Below vw.heap.size vw wx)
    case first =>
      go_region_held3 (fun W => W.cell? ⟨B, off, none⟩ = some (.int .u8 (b0 : Int)) ∧ W.cell? ⟨B, off + 1, none⟩ = some (.int .u8 (b1 : Int)))
        (first | (with_reducible exact keep_set5 s1 hBlt) | (with_reducible exact sv) | (with_reducible exact svd) | (with_reducible exact sva _) | (with_reducible exact s1) | (with_reducible exact keep2 s1 ((Below.refl _ _).alloc (Nat.le_refl _) _)))
        (first
        | (go_at_call 96; (with_reducible refine (hT vw.drew hrvd).mono ?_); rintro e w1 ⟨A1, c1, rfl, g1, bb1⟩; have s1 := keep2 svd bb1)
        | (go_at_call 96; (with_reducible refine (hT (vw.alloc _).drew (hrva _)).mono ?_); rintro e w1 ⟨A1, c1, rfl, g1, bb1⟩; have s1 := keep2 (sva _) bb1; have hz : w1.heap[vw.heap.size]? = some (.cells #[.int .u8 0, .int .i64 0, .int .i64 0, .slice none 0 0, .int .i64 0] 54 (0, 0)) := (bb1.block vw.heap.size (by simp)).trans (heap_alloc_new vw _); obtain ⟨z0, z1, z2, z3, z4⟩ := five hz; have q0 := free_of_row hz 0; have q1 := free_of_row hz 1; have q2 := free_of_row hz 2; have q3 := free_of_row hz 3; have q4 := free_of_row hz 4; have HZ := hid hz; clear hz))
      all_goals (go_wp2_with fail; go_meet)
      · exact ⟨w1.heap.size, A1, c1, rfl, bb1.size, heap_alloc_new w1 _, g1.below ((Below.refl _ _).alloc (Nat.le_refl _) _), (below_drew' bb1).alloc bb1.size _⟩
      all_goals
        have g1' := g1.mono (show vw.heap.size + 1 ≤ _ by simp)
        have bb1' : Below vw.heap.size vw w1 := (((Below.refl _ vw).alloc (Nat.le_refl _) _).trans ((below_drew' bb1).mono (by simp)))
        exact ⟨vw.heap.size, A1, c1, rfl, Nat.le_refl _, row_set5 HZ.out, (own_set5 g1' (Nat.lt_succ_self _)).mono (Nat.le_succ _), below_set5 bb1' (Nat.le_refl _)⟩
    case rest =>
      obtain ⟨g, A1, c1, rfl, hg1, hg2, hg3, hg4⟩ := hcut
      have HRI := hid (show readInd l = ⟨b0, n2, n4, n26, X⟩ from hri.out)
      have hi' : (⟨b0, n2, n4, n26, X⟩ : Ind).in_ := by rw [← HRI.out]; exact hi
      have hres2 := hid ((hg4.block w.heap.size (heap_lt hres.out)).trans hres.out)
      have hr2 := hrv.below hg4
      have HI := hid hi'
      obtain ⟨x0, x1, x2, x3, x4⟩ := five hg2
      have HG2 := hid hg2
      have hgw := hid (show g ≠ w.heap.size by have := heap_lt hres.out; omega)
      clear hU hU4 hU26 hT hmin hi hi' svd sv sva hrva hrv hrvd hw1 hw2 hw3 hw4 hri hg2
      go_wp2_with fail
      refine (PutInode_any _ ⟨b0, n2, n4, n26, X⟩ A1 c1 HI.out hg3.rd).mono ?_
      have hisI : isInd l = (okInd (readInd l) && (indB (readInd l) == l)) := rfl
      rw [HRI.out] at hisI
      have HIS := hid hisI; clear hisI
      have hgot : isInd l = true → gotInd l = ⟨b0, n2, n4, n26, X⟩ ∧ gerrInd l = 0 := by rw [← HRI.out]; exact ind_yes
      have HGO := hid hgot; clear hgot
      by_cases hok : okInd ⟨b0, n2, n4, n26, X⟩ = true
      · have hp := hid (show putInd ⟨b0, n2, n4, n26, X⟩ = indB ⟨b0, n2, n4, n26, X⟩ by rw [putInd, if_pos hok])
        rw [show errInd ⟨b0, n2, n4, n26, X⟩ = 0 by rw [errInd, if_pos hok], hp.out]
        rintro e w2 ⟨A2, c2, rfl, g2, b2⟩
        have bw2 := hg4.trans (b2.mono hg4.size)
        have bww := bv.trans (bw2.mono bv.size)
        have hres3 := kept1 b2 hres2.out
        have hrow3 := kept1 b2 HG2.out
        obtain ⟨x0, x1, x2, x3, x4⟩ := five hrow3
        obtain ⟨z0, z1, z2, z3, z4⟩ := five hres3
        have q0 := free_of_row hres3 0; have q1 := free_of_row hres3 1; have q2 := free_of_row hres3 2; have q3 := free_of_row hres3 3; have q4 := free_of_row hres3 4
        have g3 := hg3.below b2
        clear hres3 hrow3
        go_wp2_with fail
        refine (Equal_any _ _ _ _ _ _ _ (indB ⟨b0, n2, n4, n26, X⟩) l rfl H64.out.symm g2.rd (hr2.below b2)).mono ?_
        by_cases heq : (indB ⟨b0, n2, n4, n26, X⟩ == l) = true
        · rw [heq]
          rintro e w' ⟨rfl, rfl⟩
          have HGI := hid (HGO.out (by rw [HIS.out, hok, heq]; rfl))
          have hgb := hid (heap_lt hres.out)
          go_wp2_with fail
          rw [HGI.out.1, HGI.out.2]
          refine bodyPost_ret (v := .tuple #[(⟨b0, n2, n4, n26, X⟩ : Ind).val A1 c1, .int .i64 0]) ?_ rfl ⟨A1, c1, rfl, ?_, ?_⟩
          · simp [results, Try.results58, go_sem, Ind.val, indCells, z0, z1, z2, z3, z4]
          · exact (((((g3.setOther hgb.out _ _).setOther hgb.out _ _).setOther hgb.out _ _).setOther hgb.out _ _).setOther hgb.out _ _).mono bv.size
          · exact ((((bww.setCell (Nat.le_refl _) _).setCell (Nat.le_refl _) _).setCell (Nat.le_refl _) _).setCell (Nat.le_refl _) _).setCell (Nat.le_refl _) _
        · rw [eq_false_of_ne_true heq]
          rintro e w' ⟨rfl, rfl⟩
          have HGI := hid (ind_no (b := l) (by rw [HIS.out, eq_false_of_ne_true heq, Bool.and_false]))
          go_wp2_with fail
          rw [HGI.out.1, HGI.out.2]
          refine bodyPost_ret (v := .tuple #[(⟨0, 0, 0, 0, []⟩ : Ind).val none 0, .int .i64 30]) ?_ rfl ⟨none, 0, rfl, OwnX.nil _ _, ?_⟩
          · simp [results, Try.results58, go_sem, Ind.val, indCells, z0, z1, z2, z3, z4]
          · exact ((((bww.setCell (Nat.le_refl _) _).setCell (Nat.le_refl _) _).setCell (Nat.le_refl _) _).setCell (Nat.le_refl _) _).setCell (Nat.le_refl _) _
      · have hok := eq_false_of_ne_true hok
        rw [show errInd ⟨b0, n2, n4, n26, X⟩ = 2 by rw [errInd, hok]; rfl]
        rintro e w2 ⟨A2, c2, rfl, g2, b2⟩
        have bw2 := hg4.trans (b2.mono hg4.size)
        have bww := bv.trans (bw2.mono bv.size)
        have hres3 := kept1 b2 hres2.out
        obtain ⟨z0, z1, z2, z3, z4⟩ := five hres3
        have q0 := free_of_row hres3 0; have q1 := free_of_row hres3 1; have q2 := free_of_row hres3 2; have q3 := free_of_row hres3 3; have q4 := free_of_row hres3 4
        clear hres3
        have HGI := hid (ind_no (b := l) (by rw [HIS.out, hok, Bool.false_and]))
        go_wp2_with fail
        rw [HGI.out.1, HGI.out.2]
        refine bodyPost_ret (v := .tuple #[(⟨0, 0, 0, 0, []⟩ : Ind).val none 0, .int .i64 30]) ?_ rfl ⟨none, 0, rfl, OwnX.nil _ _, ?_⟩
        · simp [results, Try.results58, go_sem, Ind.val, indCells, z0, z1, z2, z3, z4]
        · exact ((((bww.setCell (Nat.le_refl _) _).setCell (Nat.le_refl _) _).setCell (Nat.le_refl _) _).setCell (Nat.le_refl _) _).setCell (Nat.le_refl _) _
  · have hg := hid (ind_no (not_ind_len (b := l) h64))
    rw [hg.out.1, hg.out.2]
    have hb : ((l.length : Int) == 64) = false := by rw [beq_eq_false_iff_ne]; omega
    have h2' : ¬ (l.length : Int) = 64 := by omega
    clear hg h64
    go_enter Try.func58, Try.ntmps58
    go_wp2
    refine bodyPost_ret (v := .tuple #[(⟨0, 0, 0, 0, []⟩ : Ind).val none 0, .int .i64 30]) ?_ rfl ⟨none, 0, rfl, OwnX.nil _ _, (Below.refl _ w).alloc (Nat.le_refl _) _⟩
    simp [results, Try.results58, go_sem, Ind.val, indCells]
end Go.Proofs.Ytahlhdhljjpeoaa

/- bits.Inode. -/
namespace Go.Proofs.Ytahlhdhljjpeoaa
open Go.RowKit
variable {Q : Nat → Prop}
set_option maxHeartbeats 1500000
set_option maxRecDepth 100000
set_option linter.unusedVariables false
set_option linter.unusedSimpArgs false

/-- The inode's bytes. -/
def inPart (d : Pl) (l : Lay) (i : Int) : List UInt8 := ((whB d l i).drop (inoA l i).toNat).take 64
def inE (d : Pl) (l : Lay) (i : Int) : Int := if whE d l i = 0 then gerrInd (inPart d l i) else whE d l i
def inV (d : Pl) (l : Lay) (i : Int) : Ind := if whE d l i = 0 then gotInd (inPart d l i) else ⟨0, 0, 0, 0, []⟩
theorem whB_len {d : Pl} (ho : d.ok) (l : Lay) (i : Int) : (whE d l i = 0 ∧ (whB d l i).length = 4096) ∨ (whE d l i ≠ 0 ∧ whB d l i = []) := by
  unfold whE whB
  split
  · exact rdB_len ho _
  · exact .inr ⟨by decide, rfl⟩
theorem five5 {w : World} {g : Nat} {t : TypeId} {x0 x1 x2 x3 x4 : Value} (h : w.heap[g]? = some (.cells #[x0, x1, x2, x3, x4] t (0, 0))) :
    w.cell? ⟨g, 0, none⟩ = some x0 ∧ w.cell? ⟨g, 1, none⟩ = some x1 ∧ w.cell? ⟨g, 2, none⟩ = some x2 ∧ w.cell? ⟨g, 3, none⟩ = some x3 ∧ w.cell? ⟨g, 4, none⟩ = some x4 := by
  refine ⟨?_, ?_, ?_, ?_, ?_⟩ <;> (rw [cell_of_row _ _ _ _ _ _ h]; rfl)
end Go.Proofs.Ytahlhdhljjpeoaa

/- bits.Inode, where it fails (printed by gen24g.py). -/
namespace Go.Proofs.Ytahlhdhljjpeoaa
open Go.RowKit
variable {Q : Nat → Prop}
set_option maxHeartbeats 1500000
set_option maxRecDepth 100000
set_option linter.unusedVariables false
set_option linter.unusedSimpArgs false

theorem Inode_no {base : Nat} (w : World) (P : Nat) {S : Nat → Prop} {d : Pl} (h : IsPl Q base w P S d) (hl : -100000000 ≤ d.left) (l : Lay) (i : Int) (hi : -9223372036854775808 ≤ i ∧ i ≤ 9223372036854775807) (hE : whE d l i ≠ 0) :
    Calls Try.prog 24 #[spV P, l.val, .int .i64 i] w fun e w' => e = .returned (.tuple #[(⟨0, 0, 0, 0, []⟩ : Ind).val none 0, .int .i64 (whE d l i)]) ∧ IsPl Q base w' P S (whD d l i) ∧ Kpt S w w' := by
  have WH := fun (W : World) (hW : IsPl Q base W P S d) => where_is W P hW hl l i hi
  have hnb := (whB_len h.ok l i).resolve_left (fun h => hE h.1)
  unfold WherePost at WH
  have hb : (whE d l i != 0) = true := by simpa using hE
  have HB := hid hnb.2
  obtain ⟨x, hx⟩ : ∃ x, x = whE d l i := ⟨_, rfl⟩
  rw [← hx] at hb ⊢
  simp only [← hx] at WH
  have H := hid h; have HX := hid hx
  clear h hE hnb hx
  generalize inoB l i = xb at *
  generalize inoA l i = xa at *
  generalize whD d l i = dd at *
  obtain ⟨b0, b1, b2, b3, b4, b5, b6⟩ := l
  simp only [Lay.val, spV, Ind.val, indCells] at WH ⊢
  have hz : (w.alloc (.cells #[.int .i64 b0, .int .i64 b1, .int .i64 b2, .int .i64 b3, .int .i64 b4, .int .i64 b5, .int .i64 b6] 39)).heap.size = w.heap.size + 1 := by simp
  have hrI := heap_alloc_new (w.alloc (.cells #[.int .i64 b0, .int .i64 b1, .int .i64 b2, .int .i64 b3, .int .i64 b4, .int .i64 b5, .int .i64 b6] 39)) (.cells #[.int .u8 0, .int .i64 0, .int .i64 0, .slice none 0 0, .int .i64 0] 54)
  rw [hz] at hrI
  have hbW : Below w.heap.size w ((w.alloc (.cells #[.int .i64 b0, .int .i64 b1, .int .i64 b2, .int .i64 b3, .int .i64 b4, .int .i64 b5, .int .i64 b6] 39)).alloc (.cells #[.int .u8 0, .int .i64 0, .int .i64 0, .slice none 0 0, .int .i64 0] 54)) := ((Below.refl _ _).alloc (Nat.le_refl _) _).alloc (by simp) _
  have WH := WH _ (H.out.below hbW)
  have HRI := hid hrI; have HBW := hid hbW
  have hSI : ¬ S (w.heap.size + 1) := fun hs => by have := (H.out.blocks hs).2.1; omega
  have HSI := hid hSI
  clear hz hrI hbW hSI
  go_enter Try.func24, Try.ntmps24
  go_wp2_with fail
  refine WH.mono ?_
  rintro e w1 ⟨⟨A, N, c, rfl, hN, ho⟩, hi1, hk1⟩
  have r1 := (hk1.block _ (heap_in HRI.out) HSI.out).trans HRI.out
  obtain ⟨y0, y1, y2, y3, y4⟩ := five5 r1
  obtain ⟨f0, f1, f2, f3, f4⟩ := And.intro (frow r1 0) (And.intro (frow r1 1) (And.intro (frow r1 2) (And.intro (frow r1 3) (frow r1 4))))
  have r2 := row_set5 (v0 := .int .u8 0) (v1 := .int .i64 0) (v2 := .int .i64 0) (v3 := .slice none 0 0) (v4 := .int .i64 0) r1
  obtain ⟨z0, z1, z2, z3, z4⟩ := five5 r2
  have K5 : Kpt (fun b => b = w.heap.size + 1) w1 (((((w1.setCell ⟨w.heap.size + 1, 0, none⟩ (.int .u8 0)).setCell ⟨w.heap.size + 1, 1, none⟩ (.int .i64 0)).setCell ⟨w.heap.size + 1, 2, none⟩ (.int .i64 0)).setCell ⟨w.heap.size + 1, 3, none⟩ (.slice none 0 0)).setCell ⟨w.heap.size + 1, 4, none⟩ (.int .i64 0)) :=
    Kpt.setCell (Kpt.setCell (Kpt.setCell (Kpt.setCell (Kpt.setCell (Kpt.refl (fun b => b = w.heap.size + 1) w1) (p := ⟨w.heap.size + 1, 0, none⟩) rfl _) (p := ⟨w.heap.size + 1, 1, none⟩) rfl _) (p := ⟨w.heap.size + 1, 2, none⟩) rfl _) (p := ⟨w.heap.size + 1, 3, none⟩) rfl _) (p := ⟨w.heap.size + 1, 4, none⟩) rfl _
  have hi5 := hi1.kpt K5 (by rintro b rfl; exact row_not_u8 r1 (by decide)) (fun b hb e => by rw [e] at hb; exact HSI.out hb)
  have HI5 := hid hi5; have HK5 := hid (((Kpt.of_below HBW.out).trans hk1).upP K5 (fun b hb => .inr (by omega)))
  have HI1 := hid hi1; have HK1 := hid ((Kpt.of_below HBW.out).trans hk1); have R1 := hid r1
  clear WH hN ho hi1 hk1 r1 r2 K5 hi5
  go_wp2
  refine bodyPost_ret (v := .tuple #[.agg #[.int .u8 0, .int .i64 0, .int .i64 0, .slice none 0 0, .int .i64 0], .int .i64 x]) ?_ rfl ⟨rfl, HI5.out, HK5.out⟩
  simp [results, Try.results24, go_sem, z0, z1, z2, z3, z4]
theorem Inode_yes {base : Nat} (w : World) (P : Nat) {S : Nat → Prop} {d : Pl} (h : IsPl Q base w P S d) (hl : -100000000 ≤ d.left) (l : Lay) (i : Int) (hi : -9223372036854775808 ≤ i ∧ i ≤ 9223372036854775807) (hE : whE d l i = 0) :
    Calls Try.prog 24 #[spV P, l.val, .int .i64 i] w fun e w' => (∃ A c, e = .returned (.tuple #[(gotInd (inPart d l i)).val A c, .int .i64 (gerrInd (inPart d l i))]) ∧ OwnX w.heap.size w' A c (gotInd (inPart d l i)).dir) ∧ IsPl Q base w' P S (whD d l i) ∧ Kpt S w w' := by
  have WH := fun (W : World) (hW : IsPl Q base W P S d) => where_is W P hW hl l i hi
  have hnb : (whB d l i).length = 4096 := by
    rcases whB_len h.ok l i with h | h
    · exact h.2
    · exact absurd hE h.1
  have hok : inoOk l i = true := by
    cases hc : inoOk l i with
    | true => rfl
    | false => simp [whE, hc] at hE
  obtain ⟨n1, n2, n3⟩ := ino_yes hok
  have hio : 1 ≤ i ∧ i ≤ l.ib * 64 := by unfold inoOk at hok; simp only [Bool.and_eq_true, decide_eq_true_eq] at hok; exact hok.2
  obtain ⟨at_, hat⟩ : ∃ n : Nat, inoA l i = (n : Int) := ⟨(inoA l i).toNat, by omega⟩
  have hat4 : at_ + 64 ≤ 4096 := by omega
  have hpt : inPart d l i = ((whB d l i).drop at_).take 64 := by rw [inPart, hat, Int.toNat_natCast]
  unfold WherePost at WH
  rw [hpt]
  simp only [hE, hat] at WH
  have H := hid h
  clear h hE hok n1 n2 n3 hio hat hpt
  generalize inoB l i = xb at *
  generalize whD d l i = dd at *
  generalize whB d l i = blk at *
  have hpl : ((blk.drop at_).take 64).length = 64 := by simp; omega
  obtain ⟨b0, b1, b2, b3, b4, b5, b6⟩ := l
  simp only [Lay.val, spV] at WH ⊢
  have hz : (w.alloc (.cells #[.int .i64 b0, .int .i64 b1, .int .i64 b2, .int .i64 b3, .int .i64 b4, .int .i64 b5, .int .i64 b6] 39)).heap.size = w.heap.size + 1 := by simp
  have hrI := heap_alloc_new (w.alloc (.cells #[.int .i64 b0, .int .i64 b1, .int .i64 b2, .int .i64 b3, .int .i64 b4, .int .i64 b5, .int .i64 b6] 39)) (.cells #[.int .u8 0, .int .i64 0, .int .i64 0, .slice none 0 0, .int .i64 0] 54)
  rw [hz] at hrI
  have hbW : Below w.heap.size w ((w.alloc (.cells #[.int .i64 b0, .int .i64 b1, .int .i64 b2, .int .i64 b3, .int .i64 b4, .int .i64 b5, .int .i64 b6] 39)).alloc (.cells #[.int .u8 0, .int .i64 0, .int .i64 0, .slice none 0 0, .int .i64 0] 54)) := ((Below.refl _ _).alloc (Nat.le_refl _) _).alloc (by simp) _
  have WH := WH _ (H.out.below hbW)
  have HRI := hid hrI; have HBW := hid hbW; have HNB := hid hnb; have HPL := hid hpl
  have hSI : ¬ S (w.heap.size + 1) := fun hs => by have := (H.out.blocks hs).2.1; omega
  have HSI := hid hSI
  clear hz hrI hbW hSI hnb hpl
  go_enter Try.func24, Try.ntmps24
  go_wp2_with fail
  refine WH.mono ?_
  rintro e w1 ⟨⟨A, N, c, rfl, hN, ho⟩, hi1, hk1⟩
  rw [HNB.out] at hN
  subst hN
  have hcap := ho.cap
  rw [HNB.out] at hcap
  obtain ⟨hcap1, hcap2⟩ := hcap
  obtain ⟨g, rfl, hg1, hg2⟩ := own_adrP ho (by intro e; have := HNB.out; rw [e] at this; simp at this)
  have rp := ho.rd.part at_ 64
  rw [Nat.zero_add] at rp
  have GI := GetInode_any w1 (some ⟨g, at_, none⟩) (c - at_) 64 ((blk.drop at_).take 64) HPL.out.symm (by rw [HPL.out]; decide) rp
  have r1 := (hk1.block _ (heap_in HRI.out) HSI.out).trans HRI.out
  have HI1 := hid hi1; have HK1 := hid ((Kpt.of_below HBW.out).trans hk1); have R1 := hid r1
  have t1 : (at_ : Int) + 64 ≤ (c : Int) := by omega
  have t2 : ((at_ : Int) + 64).toNat = at_ + 64 := by omega
  have t3 : at_ + 64 - at_ = 64 := by omega
  have t4 : ¬ c = at_ := by omega
  clear WH ho hi1 hk1 r1 rp
  go_wp2_with fail
  refine GI.mono ?_
  rintro e w2 ⟨A2, c2, rfl, ox, b2⟩
  clear GI
  obtain ⟨I, hI⟩ : ∃ I, I = gotInd ((blk.drop at_).take 64) := ⟨_, rfl⟩
  obtain ⟨x, hx⟩ : ∃ x, x = gerrInd ((blk.drop at_).take 64) := ⟨_, rfl⟩
  rw [← hI] at ox
  rw [← hI, ← hx]
  have HG := hid hI; have HX := hid hx
  clear hI hx
  obtain ⟨k, ln, sz, nd, dir⟩ := I
  simp only [Ind.val, indCells] at ox ⊢
  have r2 := (b2.block _ (heap_in R1.out)).trans R1.out
  obtain ⟨y0, y1, y2, y3, y4⟩ := five5 r2
  obtain ⟨f0, f1, f2, f3, f4⟩ := And.intro (frow r2 0) (And.intro (frow r2 1) (And.intro (frow r2 2) (And.intro (frow r2 3) (frow r2 4))))
  have r3 := row_set5 (v0 := .int .u8 (k : Int)) (v1 := .int .i64 ln) (v2 := .int .i64 sz) (v3 := .slice A2 dir.length c2) (v4 := .int .i64 nd) r2
  obtain ⟨z0, z1, z2, z3, z4⟩ := five5 r3
  have K5 : Kpt (fun b => b = w.heap.size + 1) w2 (((((w2.setCell ⟨w.heap.size + 1, 0, none⟩ (.int .u8 (k : Int))).setCell ⟨w.heap.size + 1, 1, none⟩ (.int .i64 ln)).setCell ⟨w.heap.size + 1, 2, none⟩ (.int .i64 sz)).setCell ⟨w.heap.size + 1, 3, none⟩ (.slice A2 dir.length c2)).setCell ⟨w.heap.size + 1, 4, none⟩ (.int .i64 nd)) :=
    Kpt.setCell (Kpt.setCell (Kpt.setCell (Kpt.setCell (Kpt.setCell (Kpt.refl (fun b => b = w.heap.size + 1) w2) (p := ⟨w.heap.size + 1, 0, none⟩) rfl _) (p := ⟨w.heap.size + 1, 1, none⟩) rfl _) (p := ⟨w.heap.size + 1, 2, none⟩) rfl _) (p := ⟨w.heap.size + 1, 3, none⟩) rfl _) (p := ⟨w.heap.size + 1, 4, none⟩) rfl _
  have hi2 := HI1.out.below b2
  have hi5 := hi2.kpt K5 (by rintro b rfl; exact row_not_u8 r2 (by decide)) (fun b hb e => by rw [e] at hb; exact HSI.out hb)
  have hlt := heap_in R1.out
  have ox5 := own_set5 (v0 := .int .u8 (k : Int)) (v1 := .int .i64 ln) (v2 := .int .i64 sz) (v3 := .slice A2 dir.length c2) (v4 := .int .i64 nd) ox hlt
  have HI5 := hid hi5; have HK5 := hid ((HK1.out.trans (Kpt.of_below b2)).upP K5 (fun b hb => .inr (by omega))); have OX := hid (ox5.mono (show w.heap.size ≤ w1.heap.size by omega))
  clear ox b2 r2 r3 K5 hi2 hi5 ox5 t1 t2 t3 t4
  go_wp2
  refine bodyPost_ret (v := .tuple #[.agg #[.int .u8 (k : Int), .int .i64 ln, .int .i64 sz, .slice A2 dir.length c2, .int .i64 nd], .int .i64 x]) ?_ rfl ⟨⟨A2, c2, by rw [← HG.out, ← HX.out]; rfl, by rw [← HG.out]; exact OX.out⟩, HI5.out, HK5.out⟩
  simp [results, Try.results24, go_sem, z0, z1, z2, z3, z4]
end Go.Proofs.Ytahlhdhljjpeoaa

/- Loops over functions: what a round does, and what the function that is ranged over promises; walks of round bodies out of plain walks. -/
namespace Go.Proofs.Ytahlhdhljjpeoaa
open Go.RowKit
set_option linter.unusedVariables false
set_option linter.unusedSimpArgs false

/-! From a plain walk to one within a round. -/
/-- No defer statement. -/
def plainOp (o : Oper) : Bool := match o.op with | .defer _ => false | _ => true
theorem plainOp_no {o : Oper} (h : plainOp o = true) : ∀ c, o.op ≠ .defer c := by
  intro c e
  unfold plainOp at h
  rw [e] at h
  cases h
theorem op_round {l n : Nat} {P : Program} {o : Oper} {a : Act} {w : World} {K K' : Act → World → Prop} {Q : Exit → Act → World → Prop} (hp : plainOp o = true) (hQ : ¬ LetsOut Q) (hK : ∀ a w, K a w → K' a w)
    (h : o.wp P a w K Q) : o.wpIn (Fence.wide.inRound l) n P a w K' Q := by
  refine ⟨fun _ _ => trivial, ?_⟩
  have e : o.semAt (Fence.wide.inRound l).round a.eval = execOp a.eval o := Oper.semAt_eq _ _ _ (plainOp_no hp)
  rw [e]
  unfold Oper.wp at h
  revert h
  generalize (execOp a.eval o).run P w = r
  intro h
  unfold Oper.upon at h
  unfold Oper.uponIn
  split at h
  · exact hK _ _ h
  · exact hK _ _ h
  · exact hK _ _ h
  · refine ⟨fun hd => (by simp [Fence.wide, Fence.inRound] at hd), ?_⟩
    refine CallsIn.inRound l (callsIn_wide.2 (h.mono ?_))
    intro e w1 h1
    split at h1
    · exact hK _ _ h1
    · exact h1
    · exact absurd h1 hQ
  · refine ⟨fun hd => (by simp [Fence.wide, Fence.inRound] at hd), ?_⟩
    intro c cs _
    obtain ⟨v, w1, h1, h2⟩ := h c cs
    exact ⟨v, w1, hK _ _ h1, (stepsIn_wide (P := P)).2 h2⟩
  · exact h
  · exact h.elim
theorem list_round {l n : Nat} {P : Program} {ops : Array Oper} {Q : Exit → Act → World → Prop} (hQ : ¬ LetsOut Q) : ∀ (os : List Oper) (a : Act) (w : World), os.all plainOp = true → wpList P ops Q os a w → wpListIn (Fence.wide.inRound l) n P ops Q os a w
  | [], _, _, _, h => h
  | o :: os, a, w, hp, h => by
    simp only [List.all_cons, Bool.and_eq_true] at hp
    unfold wpList at h
    unfold wpListIn
    split at h
    · rename_i hw
      rw [if_pos hw]
      rcases h with h | h
      · exact op_round hp.1 hQ (fun a w h => list_round hQ os a w hp.2 h) h
      · exact absurd h.2 hQ
    · rename_i hw
      rw [if_neg hw]
      exact ⟨fun _ _ => trivial, list_round hQ os _ w hp.2 h⟩
/-- A region of a round, walked as anywhere. -/
theorem region_round {l n : Nat} {P : Program} {id : Nat} {os : List Oper} {Q : Exit → Act → World → Prop} {a : Act} {w : World} (hp : os.all plainOp = true) (hQ : ¬ LetsOut Q)
    (h : wpList P os.toArray Q os a w) : (Code.region id os.toArray false).wpIn (Fence.wide.inRound l) n P Q a w :=
  wpIn_region_list (by simpa using list_round hQ os a w hp h)
theorem ops_round {l n : Nat} {P : Program} {ops : Array Oper} {Q : Exit → Act → World → Prop} (hQ : ¬ LetsOut Q) (hp : ∀ (i : Nat) (o : Oper), ops[i]? = some o → plainOp o = true) : ∀ (is : List Nat) (a : Act) (w : World), wpOps P ops Q is a w → wpOpsIn (Fence.wide.inRound l) n P ops Q is a w
  | [], _, _, h => h
  | i :: is, a, w, h => by
    unfold wpOps at h
    unfold wpOpsIn
    cases ho : ops[i]? with
    | none =>
      simp only [ho] at h ⊢
      exact ops_round hQ hp is a w h
    | some o =>
      simp only [ho] at h ⊢
      split at h
      · rename_i hw
        rw [if_pos hw]
        rcases h with h | h
        · exact op_round (hp i o ho) hQ (fun a w h => ops_round hQ hp is a w h) h
        · exact absurd h.2 hQ
      · rename_i hw
        rw [if_neg hw]
        exact ⟨fun _ _ => trivial, ops_round hQ hp is _ w h⟩
/-- A region of a round that draws its order. -/
theorem region_round_held {S : World → Prop} {l n : Nat} {P : Program} {id : Nat} {ops : Array Oper} {Q : Exit → Act → World → Prop} {a : Act} {w : World} (hm : P.follows .mixedOrders = true) (hp : ops.toList.all plainOp = true) (hQ : ¬ LetsOut Q) (hS : S w.drew)
    (h : S w.drew → wpAnyH P .any ops Q S ops.size (Array.replicate ops.size false) a w.drew) : (Code.region id ops true).wpIn (Fence.wide.inRound l) n P Q a w :=
  wpIn_region_draw fun t => by
    simp only [Region.schedule, hm, Bool.true_or, if_true]
    refine ops_round hQ (fun i o ho => ?_) _ _ _ (wpAny_sound ops.size t _ a _ (wpAny_of_held _ _ _ _ (h hS)))
    rw [List.all_eq_true] at hp
    refine hp o ?_
    rw [← Array.getElem?_toList] at ho
    exact List.mem_of_getElem? ho
end Go.Proofs.Ytahlhdhljjpeoaa
