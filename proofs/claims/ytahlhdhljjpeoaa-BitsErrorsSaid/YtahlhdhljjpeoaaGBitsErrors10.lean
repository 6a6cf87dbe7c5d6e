/- Texts joined: Node3, Inode, Inode2, Inode3. -/
import Derived.Deep.DeepCutAuto
import Derived.Test.YtahlhdhljjpeoaaGBitsErrors9
/- GetNode of both sides. -/
namespace Go.Proofs.Ytahlhdhljjpeoaa
open Go.RowKit
set_option maxHeartbeats 1600000
set_option linter.unusedVariables false
set_option linter.unusedSimpArgs false

theorem xat_xsAtB (l : List UInt8) (p : Int) (n k : Nat) (hk : k < n) : xat (xsAtB l p n) k = xAtB l (p + 6 * (k : Int)) := by
  simp [xat, xsAtB, List.getD_eq_getElem?_getD, List.getElem?_map, List.getElem?_range hk]
theorem okX_xsAtB (l : List UInt8) (p : Int) (n : Nat) : okX (xsAtB l p n) := by
  intro k hk
  rw [xsAtB_length] at hk
  rw [xat_xsAtB _ _ _ _ hk]
  have h1 := numV2_lt l (p + 6 * (k : Int)); have h2 := numV2_lt l (p + 6 * (k : Int) + 2); have h3 := numV2_lt l (p + 6 * (k : Int) + 4)
  simp only [Ext.ok, xAtB]
  omega
/-- The extents that a block says it has. -/
def nodeX (b : List UInt8) : List Ext := xsAtB b 8 (numV b 0 2)
def isNode (b : List UInt8) : Bool := okL (nodeX b) && (nodeB (nodeX b) == b)
def gotL (b : List UInt8) : List Ext := if isNode b then nodeX b else []
def gerrL (b : List UInt8) : Int := if isNode b then 0 else 30
theorem not_node_len {b : List UInt8} (h : b.length ≠ 4096) : isNode b = false := by
  unfold isNode
  by_cases ho : okL (nodeX b) = true
  · have h2 : (nodeX b).length ≤ 250 := by simp [okL] at ho; exact ho.1
    have := nodeB_length _ h2
    rw [ho, Bool.true_and, beq_eq_false_iff_ne]
    rintro e; rw [e] at this; exact h this
  · simp [eq_false_of_ne_true ho]
theorem not_node_many {b : List UInt8} (h : 250 < numV b 0 2) : isNode b = false := by
  have : okL (nodeX b) = false := by simp [okL, nodeX, xsAtB_length]; omega
  simp [isNode, this]
theorem node_no {b : List UInt8} (h : isNode b = false) : gotL b = [] ∧ gerrL b = 30 := by simp [gotL, gerrL, h]
theorem node_yes {b : List UInt8} (h : isNode b = true) : gotL b = nodeX b ∧ gerrL b = 0 := by simp [gotL, gerrL, h]
set_option maxRecDepth 100000 in
theorem GetNode_any (w : World) (a : Option Addr) (c N : Nat) (l : List UInt8) (hN : N = l.length) (hl : l.length ≤ 200000000000000) (hr : RdB w a l) :
    Calls Try.prog 78 #[.slice a N c] w fun e w' => ∃ A c', e = .returned (.tuple #[.slice A (gotL l).length c', .int .i64 (gerrL l)]) ∧ OwnX w.heap.size w' A c' (gotL l) ∧ Below w.heap.size w w' := by
  subst hN
  have hx := numV2_lt l 0
  have hnx := hid (show nodeX l = xsAtB l 8 (numV l 0 2) from rfl)
  by_cases h2 : l.length < 2
  · have hg := hid (node_no (not_node_len (b := l) (by omega)))
    have hk : numOk l 0 2 = false := by simp [numOk]; omega
    rw [hg.out.1, hg.out.2]
    go_enter Try.func78, Try.ntmps78
    go_wp2_with fail
    refine (U16_any _ _ _ _ l rfl 0 hl hr (by decide)).mono ?_
    rw [hk]
    rintro e w' ⟨rfl, rfl⟩
    go_wp2
    go_ret2
    exact ⟨none, 0, rfl, OwnX.nil _ _, Below.refl _ _⟩
  · have hk : numOk l 0 2 = true := by simp [numOk]; omega
    by_cases h250 : 250 < numV l 0 2
    · have hg := hid (node_no (not_node_many (b := l) h250))
      rw [hg.out.1, hg.out.2]
      have hU := fun w (hr : RdB w a l) => U16_any w a c _ l rfl 0 hl hr (by decide)
      rw [hk] at hU
      clear hk hnx hg
      generalize numV l 0 2 = n at *
      go_enter Try.func78, Try.ntmps78
      go_wp2_with fail
      refine (hU _ hr).mono ?_
      rintro e w' ⟨rfl, rfl⟩
      go_wp2
      go_ret2
      exact ⟨none, 0, rfl, OwnX.nil _ _, Below.refl _ _⟩
    · have hxl := xsAtB_length l 8 (numV l 0 2)
      have hxo := okX_xsAtB l 8 (numV l 0 2)
      have hU := fun w (hr : RdB w a l) => U16_any w a c _ l rfl 0 hl hr (by decide)
      have hT := fun w (hr : RdB w a l) => taken_any w a c _ l rfl hl hr 8 (by decide) (numV l 0 2) (by omega)
      rw [hk] at hU
      have hnode : isNode l = (okL (nodeX l) && (nodeB (nodeX l) == l)) := rfl
      rw [hnx.out] at hnode
      have hgot : isNode l = true → gotL l = xsAtB l 8 (numV l 0 2) ∧ gerrL l = 0 := fun h => node_yes h
      clear hk hnx
      generalize xsAtB l 8 (numV l 0 2) = X at *
      generalize numV l 0 2 = n at *
      have HX := hid hxl; have HO := hid hxo; have HND := hid hnode; have HG := hid hgot
      clear hxl hxo hnode hgot
      go_enter Try.func78, Try.ntmps78
      go_wp2_with fail
      refine (hU _ hr).mono ?_
      rintro e w' ⟨rfl, rfl⟩
      go_wp2_with fail
      refine (hT _ hr).mono ?_
      rintro e w1 ⟨A1, c1, rfl, g1, b1⟩
      go_wp2_with fail
      refine (PutNode_any _ _ _ _ X HX.out.symm (by have := HX.out; omega) g1.rd HO.out).mono ?_
      by_cases hok : okL X = true
      · have hp := hid (show putL X = nodeB X by rw [putL, if_pos hok])
        rw [show errL X = 0 by rw [errL, if_pos hok], hp.out]
        rintro e w2 ⟨A2, c2, rfl, g2, b2⟩
        have bw2 := b1.trans (b2.mono b1.size)
        go_wp2_with fail
        refine (Equal_any _ _ _ _ _ _ _ (nodeB X) l rfl rfl g2.rd (hr.below bw2)).mono ?_
        by_cases heq : (nodeB X == l) = true
        · rw [heq]
          rintro e w' ⟨rfl, rfl⟩
          have hi := HG.out (by rw [HND.out, hok, heq]; rfl)
          have HI := hid hi; clear hi
          go_wp2
          go_ret2
          refine ⟨A1, c1, ?_, ?_, bw2⟩
          · rw [HI.out.1, HI.out.2, HX.out]; rfl
          · rw [HI.out.1]; exact g1.below b2
        · rw [eq_false_of_ne_true heq]
          rintro e w' ⟨rfl, rfl⟩
          have HI := hid (node_no (b := l) (by rw [HND.out, eq_false_of_ne_true heq, Bool.and_false]))
          go_wp2
          go_ret2
          refine ⟨none, 0, ?_, ?_, bw2⟩
          · rw [HI.out.1, HI.out.2]; rfl
          · rw [HI.out.1]; exact OwnX.nil _ _
      · have hok := eq_false_of_ne_true hok
        rw [show errL X = 2 by rw [errL, hok]; rfl]
        rintro e w2 ⟨A2, c2, rfl, g2, b2⟩
        have bw2 := b1.trans (b2.mono b1.size)
        have HI := hid (node_no (b := l) (by rw [HND.out, hok, Bool.false_and]))
        go_wp2
        go_ret2
        refine ⟨none, 0, ?_, ?_, bw2⟩
        · rw [HI.out.1, HI.out.2]; rfl
        · rw [HI.out.1]; exact OwnX.nil _ _
set_option maxRecDepth 100000 in
theorem refGetNode_any (w : World) (a : Option Addr) (c N : Nat) (l : List UInt8) (hN : N = l.length) (hl : l.length ≤ 200000000000000) (hr : RdB w a l) :
    Calls Try.prog 82 #[.slice a N c] w fun e w' => ∃ A c', e = .returned (.tuple #[.slice A (gotL l).length c', .int .i64 (gerrL l)]) ∧ OwnX w.heap.size w' A c' (gotL l) ∧ Below w.heap.size w w' := by
  subst hN
  have hx := numV2_lt l 0
  have hnx := hid (show nodeX l = xsAtB l 8 (numV l 0 2) from rfl)
  by_cases h2 : l.length = 4096
  · have hU := fun w (hr : RdB w a l) => rnumber2_any w a c _ l rfl 0 hl hr (by decide)
    by_cases h250 : 250 < numV l 0 2
    · have hg := hid (node_no (not_node_many (b := l) h250))
      rw [hg.out.1, hg.out.2]
      clear hnx hg
      generalize numV l 0 2 = n at *
      have hU' : ∀ w, RdB w a l → Calls Try.prog 109 #[.slice a 4096 c, .int .i64 0, .int .i64 2] w fun e w' => e = .returned (.int .i64 (n : Nat)) ∧ w = w' := by rw [← h2]; exact hU
      rw [h2]
      clear hU h2
      go_enter Try.func82, Try.ntmps82
      go_wp2_with fail
      refine (hU' _ hr).mono ?_
      rintro e w' ⟨rfl, rfl⟩
      go_wp2
      go_ret2
      exact ⟨none, 0, rfl, OwnX.nil _ _, Below.refl _ _⟩
    · have hxl := xsAtB_length l 8 (numV l 0 2)
      have hxo := okX_xsAtB l 8 (numV l 0 2)
      have hT := fun w (hr : RdB w a l) => read_any w a c _ l rfl hl hr 8 (by decide) (numV l 0 2) (by omega)
      have hnode : isNode l = (okL (nodeX l) && (nodeB (nodeX l) == l)) := rfl
      rw [hnx.out] at hnode
      have hgot : isNode l = true → gotL l = xsAtB l 8 (numV l 0 2) ∧ gerrL l = 0 := fun h => node_yes h
      clear hnx
      generalize xsAtB l 8 (numV l 0 2) = X at *
      generalize numV l 0 2 = n at *
      have HX := hid hxl; have HO := hid hxo; have HND := hid hnode; have HG := hid hgot
      have H4 := hid h2
      have hU' : ∀ w, RdB w a l → Calls Try.prog 109 #[.slice a 4096 c, .int .i64 0, .int .i64 2] w fun e w' => e = .returned (.int .i64 (n : Nat)) ∧ w = w' := by rw [← h2]; exact hU
      have hT' : ∀ w, RdB w a l → Calls Try.prog 110 #[.slice a 4096 c, .int .i64 8, .int .i64 (n : Int)] w fun e w' => ∃ A c', e = .returned (.slice A n c') ∧ OwnX w.heap.size w' A c' X ∧ Below w.heap.size w w' := by rw [← h2]; exact hT
      rw [h2]
      clear hxl hxo hnode hgot h2 hU hT
      go_enter Try.func82, Try.ntmps82
      go_wp2_with fail
      refine (hU' _ hr).mono ?_
      rintro e w' ⟨rfl, rfl⟩
      go_wp2_with fail
      refine (hU' _ hr).mono ?_
      rintro e w' ⟨rfl, rfl⟩
      go_wp2_with fail
      refine (hT' _ hr).mono ?_
      rintro e w1 ⟨A1, c1, rfl, g1, b1⟩
      go_wp2_with fail
      refine (refPutNode_any _ _ _ _ X HX.out.symm (by have := HX.out; omega) g1.rd HO.out).mono ?_
      by_cases hok : okL X = true
      · have hp := hid (show putL X = nodeB X by rw [putL, if_pos hok])
        rw [show errL X = 0 by rw [errL, if_pos hok], hp.out]
        rintro e w2 ⟨A2, c2, rfl, g2, b2⟩
        have bw2 := b1.trans (b2.mono b1.size)
        go_wp2_with fail
        refine (SameBytes_any _ _ _ _ _ _ _ (nodeB X) l rfl H4.out.symm g2.rd (hr.below bw2)).mono ?_
        by_cases heq : (nodeB X == l) = true
        · rw [heq]
          rintro e w' ⟨rfl, rfl⟩
          have hi := HG.out (by rw [HND.out, hok, heq]; rfl)
          have HI := hid hi; clear hi
          go_wp2
          go_ret2
          refine ⟨A1, c1, ?_, ?_, bw2⟩
          · rw [HI.out.1, HI.out.2, HX.out]; rfl
          · rw [HI.out.1]; exact g1.below b2
        · rw [eq_false_of_ne_true heq]
          rintro e w' ⟨rfl, rfl⟩
          have HI := hid (node_no (b := l) (by rw [HND.out, eq_false_of_ne_true heq, Bool.and_false]))
          go_wp2
          go_ret2
          refine ⟨none, 0, ?_, ?_, bw2⟩
          · rw [HI.out.1, HI.out.2]; rfl
          · rw [HI.out.1]; exact OwnX.nil _ _
      · have hok := eq_false_of_ne_true hok
        rw [show errL X = 2 by rw [errL, hok]; rfl]
        rintro e w2 ⟨A2, c2, rfl, g2, b2⟩
        have bw2 := b1.trans (b2.mono b1.size)
        have HI := hid (node_no (b := l) (by rw [HND.out, hok, Bool.false_and]))
        go_wp2
        go_ret2
        refine ⟨none, 0, ?_, ?_, bw2⟩
        · rw [HI.out.1, HI.out.2]; rfl
        · rw [HI.out.1]; exact OwnX.nil _ _
  · have hg := hid (node_no (not_node_len (b := l) h2))
    rw [hg.out.1, hg.out.2]
    have hb : ((l.length : Int) == 4096) = false := by rw [beq_eq_false_iff_ne]; omega
    have h2' : ¬ (l.length : Int) = 4096 := by omega
    clear hnx hg h2 hx
    go_enter Try.func82, Try.ntmps82
    go_wp2
    go_ret2
    exact ⟨none, 0, rfl, OwnX.nil _ _, Below.refl _ _⟩
end Go.Proofs.Ytahlhdhljjpeoaa

/- Inodes: PutInode. -/
namespace Go.Proofs.Ytahlhdhljjpeoaa
open Go.RowKit
set_option maxHeartbeats 1600000
set_option linter.unusedVariables false
set_option linter.unusedSimpArgs false

/-- An inode. -/
structure Ind where
  k : Nat
  ln : Int
  sz : Int
  nd : Int
  dir : List Ext
deriving DecidableEq
def indCells (n : Ind) (a : Option Addr) (c : Nat) : Array Value := #[.int .u8 (n.k : Int), .int .i64 n.ln, .int .i64 n.sz, .slice a n.dir.length c, .int .i64 n.nd]
def Ind.val (n : Ind) (a : Option Addr) (c : Nat) : Value := .agg (indCells n a c)
def Ind.in_ (n : Ind) : Prop := n.k < 256 ∧ (-9223372036854775808 ≤ n.ln ∧ n.ln ≤ 9223372036854775807) ∧ (-9223372036854775808 ≤ n.sz ∧ n.sz ≤ 9223372036854775807) ∧ (-9223372036854775808 ≤ n.nd ∧ n.nd ≤ 9223372036854775807) ∧ n.dir.length ≤ 7000000000000 ∧ okX n.dir
def okInd (n : Ind) : Bool := if n.k = 0 then decide (n.ln = 0 ∧ n.sz = 0 ∧ n.nd = 0 ∧ n.dir.length = 0) else decide (n.k ≤ 2 ∧ (0 ≤ n.ln ∧ n.ln ≤ 100) ∧ (0 ≤ n.sz ∧ n.sz ≤ 131072) ∧ (0 ≤ n.nd ∧ n.nd ≤ 511) ∧ n.dir.length ≤ 3) && rightX n.dir
/-- Its bytes: those ahead of the place of the block of more extents; those of which the sum is. -/
def indF (n : Ind) : List UInt8 := ([byteOf n.k, byteOf n.dir.length] ++ be n.ln.toNat 2 ++ be n.sz.toNat 4 ++ xsTo n.dir n.dir.length) ++ zeros (18 - 6 * n.dir.length)
def indM (n : Ind) : List UInt8 := (indF n ++ be n.nd.toNat 2) ++ zeros 32
def indB (n : Ind) : List UInt8 := if n.k = 0 then zeros 64 else indM n ++ be (crcMore 0 (indM n)) 4
def putInd (n : Ind) : List UInt8 := if okInd n then indB n else []
def errInd (n : Ind) : Int := if okInd n then 0 else 2
theorem five {w : World} {g : Nat} {t : TypeId} {x0 x1 x2 x3 x4 : Value} (h : w.heap[g]? = some (.cells #[x0, x1, x2, x3, x4] t (0, 0))) :
    w.cell? ⟨g, 0, none⟩ = some x0 ∧ w.cell? ⟨g, 1, none⟩ = some x1 ∧ w.cell? ⟨g, 2, none⟩ = some x2 ∧ w.cell? ⟨g, 3, none⟩ = some x3 ∧ w.cell? ⟨g, 4, none⟩ = some x4 := by
  refine ⟨?_, ?_, ?_, ?_, ?_⟩ <;> (rw [cell_of_row _ _ _ _ _ _ h]; rfl)
theorem heap_lt {w : World} {g : Nat} {o : Obj} (h : w.heap[g]? = some o) : g < w.heap.size := by
  rcases Nat.lt_or_ge g w.heap.size with h' | h'
  · exact h'
  · rw [Array.getElem?_eq_none h'] at h; cases h
theorem five_alloc {w : World} {g : Nat} {t : TypeId} {x0 x1 x2 x3 x4 : Value} (h : w.heap[g]? = some (.cells #[x0, x1, x2, x3, x4] t (0, 0))) :
    (∀ o, (w.alloc o).cell? ⟨g, 0, none⟩ = some x0) ∧ (∀ o, (w.alloc o).cell? ⟨g, 1, none⟩ = some x1) ∧ (∀ o, (w.alloc o).cell? ⟨g, 2, none⟩ = some x2) ∧ (∀ o, (w.alloc o).cell? ⟨g, 3, none⟩ = some x3) ∧ (∀ o, (w.alloc o).cell? ⟨g, 4, none⟩ = some x4) := by
  refine ⟨?_, ?_, ?_, ?_, ?_⟩ <;> (intro o; rw [cell_of_row _ _ _ _ _ _ ((heap_alloc_old w o (heap_lt h)).trans h)]; rfl)
theorem keptN {w w1 : World} {o : Obj} (b : Below (w.alloc o).heap.size (w.alloc o) w1) : w1.heap[w.heap.size]? = some o := (b.block w.heap.size (by simp)).trans (heap_alloc_new w _)
theorem kept1 {w w1 : World} {g : Nat} {r : Obj} (b : Below w.heap.size w w1) (h : w.heap[g]? = some r) : w1.heap[g]? = some r := (b.block g (heap_lt h)).trans h
theorem kept2 {w w1 : World} {o r : Obj} {g : Nat} (b : Below (w.alloc o).heap.size (w.alloc o) w1) (h : w.heap[g]? = some r) : w1.heap[g]? = some r := kept1 b ((heap_alloc_old w o (heap_lt h)).trans h)
theorem okInd_free {k : Nat} {ln sz nd : Int} {l : List Ext} (h : k = 0) : okInd ⟨k, ln, sz, nd, l⟩ = decide (ln = 0 ∧ sz = 0 ∧ nd = 0 ∧ l.length = 0) := if_pos h
theorem okInd_kind {k : Nat} {ln sz nd : Int} {l : List Ext} (h : k ≠ 0) : okInd ⟨k, ln, sz, nd, l⟩ = (decide (k ≤ 2 ∧ (0 ≤ ln ∧ ln ≤ 100) ∧ (0 ≤ sz ∧ sz ≤ 131072) ∧ (0 ≤ nd ∧ nd ≤ 511) ∧ l.length ≤ 3) && rightX l) := if_neg h
set_option maxRecDepth 100000 in
theorem rightInode_any (w : World) (n : Ind) (a : Option Addr) (c : Nat) (hi : n.in_) (hr : RdX w a n.dir) :
    Calls Try.prog 101 #[n.val a c] w fun e w' => e = .returned (.bool (okInd n)) ∧ Below w.heap.size w w' := by
  obtain ⟨k, ln, sz, nd, l⟩ := n
  obtain ⟨hk, h1, h2, h3, h4, h5⟩ := hi
  have H5 := hid h5; clear h5
  simp only [Ind.val, indCells] at *
  by_cases hk0 : k = 0
  · have HK := hid (okInd_free (ln := ln) (sz := sz) (nd := nd) (l := l) hk0)
    subst hk0
    obtain ⟨r, hre⟩ : ∃ r, r = okInd ⟨0, ln, sz, nd, l⟩ := ⟨_, rfl⟩
    rw [← hre] at HK ⊢
    clear hre
    go_enter Try.func101, Try.ntmps101
    go_wp2
    all_goals
      go_ret
      refine ⟨?_, (Below.refl _ w).alloc (Nat.le_refl _) _⟩
      rw [HK.out]
      show Ending.returned (Value.bool _) = Ending.returned (Value.bool _)
      congr 2
      rw [Bool.eq_iff_iff]
      first
      | (simp only [beq_iff_eq, decide_eq_true_eq, Bool.false_eq_true]; omega)
      | (simp; done)
      | (simp; omega)
  · have HK := hid (okInd_kind (ln := ln) (sz := sz) (nd := nd) (l := l) hk0)
    obtain ⟨r, hre⟩ : ∃ r, r = okInd ⟨k, ln, sz, nd, l⟩ := ⟨_, rfl⟩
    rw [← hre] at HK ⊢
    clear hre
    have hk1 : 1 ≤ k := by omega
    clear hk0
    have hk0 : ((k : Int) == 0) = false := by rw [beq_eq_false_iff_ne]; omega
    have rw_ := hr.below ((Below.refl _ w).alloc (Nat.le_refl _) (.cells #[.int .u8 (k : Int), .int .i64 ln, .int .i64 sz, .slice a l.length c, .int .i64 nd] 54))
    have HR := hid rw_; clear rw_
    go_enter Try.func101, Try.ntmps101
    go_wp2_with (first
      | (go_at_call 117; refine (within_any _ _ _ _).mono ?_; rintro e w' ⟨rfl, rfl⟩)
      | (go_at_call 47; refine (Right_any _ _ _ _ l rfl (by omega) HR.out H5.out).mono ?_; rintro e w1 ⟨rfl, b1⟩; have bw1 := ((Below.refl _ w).alloc (Nat.le_refl _) _).trans (b1.mono (by simp))))
    all_goals
      go_ret
      first
      | (refine ⟨?_, bw1⟩
         have hd : decide (k ≤ 2 ∧ (0 ≤ ln ∧ ln ≤ 100) ∧ (0 ≤ sz ∧ sz ≤ 131072) ∧ (0 ≤ nd ∧ nd ≤ 511) ∧ l.length ≤ 3) = true := decide_eq_true (by omega)
         rw [HK.out, hd, Bool.true_and]
         rfl)
      | (refine ⟨?_, (Below.refl _ w).alloc (Nat.le_refl _) _⟩
         have hd : decide (k ≤ 2 ∧ (0 ≤ ln ∧ ln ≤ 100) ∧ (0 ≤ sz ∧ sz ≤ 131072) ∧ (0 ≤ nd ∧ nd ≤ 511) ∧ l.length ≤ 3) = false := decide_eq_false (by omega)
         rw [HK.out, hd, Bool.false_and]
         rfl)
theorem be1 (n : Nat) : be n 1 = [byteOf n] := by simp [be, beTo, List.range_succ]
theorem indF_length {n : Ind} (h : n.dir.length ≤ 3) : (indF n).length = 26 := by simp [indF, be_length, xsTo_length, zeros_length]; omega
theorem indM_length {n : Ind} (h : n.dir.length ≤ 3) : (indM n).length = 60 := by simp [indM, be_length, indF_length h, zeros_length]
theorem indB_length {n : Ind} (h : n.k = 0 ∨ n.dir.length ≤ 3) : (indB n).length = 64 := by
  unfold indB
  split
  · simp [zeros_length]
  · simp [indM_length (h.resolve_left ‹_›), be_length]
theorem okInd_len {n : Ind} (h : okInd n = true) : n.k = 0 ∨ n.dir.length ≤ 3 := by
  unfold okInd at h
  split at h
  · exact .inl ‹_›
  · simp at h; exact .inr (by omega)
theorem putInd_length {n : Ind} (h : okInd n = true) : (putInd n).length = 64 := by rw [putInd, if_pos h]; exact indB_length (okInd_len h)
theorem keep2 {v W : World} {p q : Addr} {a b : Value} (h : v.cell? p = some a ∧ v.cell? q = some b) (bl : Below v.heap.size v W) :
    W.cell? p = some a ∧ W.cell? q = some b := ⟨cell_below bl h.1, cell_below bl h.2⟩
theorem byteOf_lt {n : Nat} (h : n < 256) : (byteOf n).toNat = n := by rw [byteOf, UInt8.toNat_ofNat']; omega
theorem two_bytes {k n : Nat} (hk : k < 256) (hn : n < 256) : (#[Value.int .u8 (k : Int), .int .u8 (n : Int)]).toList = B8s [byteOf k, byteOf n] := by
  simp [B8s, B8, byteOf_lt hk, byteOf_lt hn]
set_option maxRecDepth 100000 in
theorem PutInode_any (w : World) (n : Ind) (a : Option Addr) (c : Nat) (hi : n.in_) (hr : RdX w a n.dir) :
    Calls Try.prog 64 #[n.val a c] w fun e w' => ∃ A c', e = .returned (.tuple #[.slice A (putInd n).length c', .int .i64 (errInd n)]) ∧ OwnB w.heap.size w' A c' (putInd n) ∧ Below w.heap.size w w' := by
  have R := fun w hr => rightInode_any w n a c hi hr
  have hmk := fun W => run_mkB 64 64 64 rfl rfl (by decide) W
  by_cases hok : okInd n = true
  · have hp := hid (show putInd n = indB n by rw [putInd, if_pos hok])
    have he := hid (show errInd n = 0 by rw [errInd, if_pos hok])
    have hL := hid (indB_length (okInd_len hok))
    rw [hok] at R
    rw [hp.out, he.out]
    by_cases hk0 : n.k = 0
    · have hz := hid (show indB n = zeros 64 by rw [indB, if_pos hk0])
      rw [hz.out]
      obtain ⟨k, ln, sz, nd, l⟩ := n
      simp only [Ind.val, indCells] at *
      subst hk0
      clear hok
      go_enter Try.func64, Try.ntmps64
      go_wp2_with fail
      refine (R _ (hr.below ((Below.refl _ w).alloc (Nat.le_refl _) _))).mono ?_
      rintro e w1 ⟨rfl, b1⟩
      have bw1 := ((Below.refl _ w).alloc (Nat.le_refl _) _).trans (b1.mono (by simp))
      obtain ⟨c0, c1, c2, c3, c4⟩ := five (keptN b1)
      clear b1
      go_wp2
      go_ret2
      exact ⟨_, _, rfl, OwnB.made w1 64 bw1.size (by decide), bw1.alloc bw1.size _⟩
    · have hb := hid (show indB n = indM n ++ be (crcMore 0 (indM n)) 4 by rw [indB, if_neg hk0])
      have hd : okInd n = _ := if_neg hk0
      rw [hok] at hd
      replace hd := hd.symm
      rw [Bool.and_eq_true, decide_eq_true_eq] at hd
      obtain ⟨⟨d1, ⟨d2, d3⟩, ⟨d4, d5⟩, ⟨d6, d7⟩, d8⟩, d9⟩ := hd
      have LF := hid (indF_length d8)
      have LM := hid (indM_length d8)
      have EF := hid (show indF n = ([byteOf n.k, byteOf n.dir.length] ++ be n.ln.toNat 2 ++ be n.sz.toNat 4 ++ xsTo n.dir n.dir.length) ++ zeros (18 - 6 * n.dir.length) from rfl)
      have EM := hid (show indM n = (indF n ++ be n.nd.toNat 2) ++ zeros 32 from rfl)
      have HB := hid (show badTo n.dir n.dir.length = false by simpa [rightX] using d9)
      have hx := hid hi.2.2.2.2.2
      have hk8 := hi.1
      clear hok hi
      rw [hb.out]
      obtain ⟨F, hF⟩ : ∃ F, F = indF n := ⟨_, rfl⟩
      obtain ⟨M, hM⟩ : ∃ M, M = indM n := ⟨_, rfl⟩
      rw [← hF] at LF EF EM
      rw [← hM] at LM EM hb ⊢
      rw [hb.out] at hL
      clear hF hM hp he hb
      obtain ⟨k, ln, sz, nd, l⟩ := n
      simp only [Ind.val, indCells] at *
      obtain ⟨ln, rfl⟩ := Int.eq_ofNat_of_zero_le d2
      obtain ⟨sz, rfl⟩ := Int.eq_ofNat_of_zero_le d4
      obtain ⟨nd, rfl⟩ := Int.eq_ofNat_of_zero_le d6
      simp only [Int.toNat_natCast] at EF EM
      have hk1 : ((k : Int) == 0) = false := by rw [beq_eq_false_iff_ne]; omega
      have hk2 : 1 ≤ k := by omega
      clear hk0 d9
      go_enter Try.func64, Try.ntmps64
      go_wp2_with fail
      refine (R _ (hr.below ((Below.refl _ w).alloc (Nat.le_refl _) _))).mono ?_
      rintro e w1 ⟨rfl, b1⟩
      have bw1 := ((Below.refl _ w).alloc (Nat.le_refl _) _).trans (b1.mono (by simp))
      have hrow := hid (keptN b1)
      obtain ⟨f0, f1, f2, f3, f4⟩ := five hrow.out
      obtain ⟨e0, e1, e2, e3, e4⟩ := five_alloc hrow.out
      clear b1
      have bytes2 := hid (two_bytes (n := l.length) hk8 (by omega))
      have LL0 := hid (show ([byteOf k, byteOf l.length] ++ be ln 2).length = 4 by simp [be_length])
      have LL1 := hid (show ([byteOf k, byteOf l.length] ++ be ln 2 ++ be sz 4).length = 8 by simp [be_length])
      have LL2 := hid (show ([byteOf k, byteOf l.length] ++ be ln 2 ++ be sz 4 ++ xsTo l l.length).length = 8 + 6 * l.length by simp only [List.length_append, xsTo_length, be_length]; rfl)
      go_wp2_with fail
      refine (Add16_any _ _ _ _ [byteOf k, byteOf l.length] rfl ln _ rfl (by simp) (RdB.lit w1 _ _ _ bytes2.out rfl) (by omega)).mono ?_
      rintro e w2 ⟨A2, c2, rfl, g2, b2⟩
      have bb2 := ((Below.refl _ w1).alloc (Nat.le_refl _) _).trans (b2.mono (by simp))
      obtain ⟨x0, x1, x2, x3, x4⟩ := five (kept1 bb2 hrow.out)
      have sv := And.intro x2 x3
      have hr2 := hr.below (bw1.trans (bb2.mono bw1.size))
      have g2r : RdB w2.drew A2 ([byteOf k, byteOf l.length] ++ be ln 2) := g2.rd
      clear x0 x1 x2 x3 x4 f0 f1 f2 f3 f4 e0 e1 e2 e3 e4 b2
      have hw32 : IntKind.u32.wrap (sz : Int) = (sz : Int) := IntWalk.u32_in _ (by omega)
      go_wp2_with fail
      go_region_held3 (fun W => W.cell? ⟨w.heap.size, 2, none⟩ = some (.int .i64 (sz : Int)) ∧ W.cell? ⟨w.heap.size, 3, none⟩ = some (.slice a l.length c))
        (first | exact sv | exact s3 | exact s4)
        (first
        | (go_at_call 86; refine (Add32_any w2.drew _ _ _ ([byteOf k, byteOf l.length] ++ be ln 2) LL0.out.symm sz _ rfl (by rw [LL0.out]; decide) g2r (by omega)).mono ?_; rintro e w3 ⟨A3, c3, rfl, g3, b3⟩; have bd3 := below_drew' b3; have bb3 := bb2.trans (bd3.mono bb2.size); have s3 := keep2 sv bd3; have r3 := hr2.below bd3; have g3' := g3.mono (show w1.heap.size ≤ w2.drew.heap.size from bb2.size))
        | (go_at_call 85; refine (extents_any _ _ _ 8 ([byteOf k, byteOf l.length] ++ be ln 2 ++ be sz 4) LL1.out (by decide) w1.heap.size bb3.size g3' _ _ _ l rfl (by omega) r3 HB.out).mono ?_; rintro e w4 ⟨A4, c4, rfl, g4, b4⟩; have bb4 := bb3.trans (b4.mono bb3.size); have s4 := keep2 s3 b4))
      clear hw32 sv s3 s4 g2 g2r hr2 r3 g3 g3' b3 bd3 b4
      go_wp2_with (at_builtin; refine app_zeros rfl (.tmp 33) (.tmp 36) rfl w1.heap.size A4 c4 (8 + 6 * l.length) ([byteOf k, byteOf l.length] ++ be ln 2 ++ be sz 4 ++ xsTo l l.length) LL2.out.symm rfl g4 (18 - 6 * l.length) _ (by omega) rfl 26 (by rw [LL2.out]; omega) (by rw [LL2.out]; omega) w1 bb4 bb4.size ?_; intro A5 c5 w5 g5 bb5; obtain ⟨f0, f1, f2, f3, f4⟩ := five (kept1 bb5 hrow.out))
      rw [← EF.out] at g5
      clear g4 bb4
      have g5r := g5.rd
      refine (Add16_any _ _ _ _ F LF.out.symm nd _ rfl (by rw [LF.out]; decide) g5r (by omega)).mono ?_
      rintro e w6 ⟨A6, c6, rfl, g6, b6⟩
      have bb6 := bb5.trans (b6.mono bb5.size)
      have g6 := g6.mono bb5.size
      have LF2 := hid (show (F ++ be nd 2).length = 28 by rw [List.length_append, LF.out, be_length])
      clear f0 f1 f2 f3 f4 g5 g5r b6
      go_wp2_with (at_builtin; refine app_zeros rfl (.tmp 43) (.tmp 46) rfl w1.heap.size A6 c6 28 (F ++ be nd 2) LF2.out.symm rfl g6 32 _ (by omega) rfl 60 (by rw [LF2.out]) (by rw [LF2.out]; decide) w1 bb6 bb6.size ?_; intro A7 c7 w7 g7 bb7)
      rw [← EM.out] at g7
      have g7r := g7.rd
      have HC := hid (crcMore_lt 0 M)
      refine (Crc_any _ _ _ _ M LM.out.symm (by rw [LM.out]; decide) g7r).mono ?_
      rintro e w8 ⟨rfl, b8⟩
      have bb8 := bb7.trans (b8.mono bb7.size)
      go_wp2_with fail
      refine (Add32_any _ _ _ _ M LM.out.symm (crcMore 0 M) _ rfl (by rw [LM.out]; decide) (g7r.below b8) HC.out).mono ?_
      rintro e w9 ⟨A9, c9, rfl, g9, b9⟩
      have bb9 := bb8.trans (b9.mono bb8.size)
      go_wp2
      go_ret2
      refine ⟨A9, c9, ?_, g9.mono (bw1.trans (bb8.mono bw1.size)).size, bw1.trans (bb9.mono bw1.size)⟩
      rw [hL.out]
      rfl
  · have hok := eq_false_of_ne_true hok
    have hp := hid (show putInd n = [] by rw [putInd, hok]; rfl)
    have he := hid (show errInd n = 2 by rw [errInd, hok]; rfl)
    rw [hp.out, he.out]
    rw [hok] at R
    obtain ⟨k, ln, sz, nd, l⟩ := n
    simp only [Ind.val, indCells] at *
    clear hok
    go_enter Try.func64, Try.ntmps64
    go_wp2_with fail
    refine (R _ (hr.below ((Below.refl _ w).alloc (Nat.le_refl _) _))).mono ?_
    rintro e w1 ⟨rfl, b1⟩
    have bw1 := ((Below.refl _ w).alloc (Nat.le_refl _) _).trans (b1.mono (by simp))
    go_wp2
    go_ret2
    exact ⟨none, 0, rfl, OwnB.nil _ _, bw1⟩
end Go.Proofs.Ytahlhdhljjpeoaa

/- The document's PutInode. -/
namespace Go.Proofs.Ytahlhdhljjpeoaa
open Go.RowKit
set_option maxHeartbeats 1600000
set_option linter.unusedVariables false
set_option linter.unusedSimpArgs false

theorem radd1_any (w : World) (a : Option Addr) (c N : Nat) (l : List UInt8) (v : Nat) (hN : l.length = N) (hl : N ≤ 1000) (hr : RdB w a l) (hv : v < 65536) :
    Calls Try.prog 106 #[.slice a N c, .int .i64 (v : Int), .int .i64 1] w fun e w' =>
      ∃ A c', e = .returned (.slice A (N + 1) c') ∧ OwnB w.heap.size w' A c' (l ++ be v 1) ∧ Below w.heap.size w w' :=
  radd_any w a c N l hN.symm v 1 _ _ rfl rfl (by omega) hr (by decide) (by omega)
theorem radd4_any (w : World) (a : Option Addr) (c N : Nat) (l : List UInt8) (v : Nat) (hN : l.length = N) (hl : N ≤ 1000) (hr : RdB w a l) (hv : v < 4294967296) :
    Calls Try.prog 106 #[.slice a N c, .int .i64 (v : Int), .int .i64 4] w fun e w' =>
      ∃ A c', e = .returned (.slice A (N + 4) c') ∧ OwnB w.heap.size w' A c' (l ++ be v 4) ∧ Below w.heap.size w w' :=
  radd_any w a c N l hN.symm v 4 _ _ rfl rfl (by omega) hr (by decide) (by omega)
theorem keep4' {v W : World} {p q r s : Addr} {a b c d : Value} (h : v.cell? p = some a ∧ v.cell? q = some b ∧ v.cell? r = some c ∧ v.cell? s = some d) (bl : Below v.heap.size v W) :
    W.cell? p = some a ∧ W.cell? q = some b ∧ W.cell? r = some c ∧ W.cell? s = some d := ⟨cell_below bl h.1, cell_below bl h.2.1, cell_below bl h.2.2.1, cell_below bl h.2.2.2⟩
set_option maxRecDepth 100000 in
theorem refPutInode_no (w : World) (n : Ind) (a : Option Addr) (c : Nat) (hi : n.in_) (hr : RdX w a n.dir) (hok : okInd n = false) :
    Calls Try.prog 81 #[n.val a c] w fun e w' => e = .returned (.tuple #[.slice none 0 0, .int .i64 2]) ∧ Below w.heap.size w w' := by
  obtain ⟨hk, h1, h2, h3, h4, h5⟩ := hi
  have H5 := hid h5; clear h5
  obtain ⟨k, ln, sz, nd, l⟩ := n
  simp only [Ind.val, indCells] at *
  have R := fun w hr => refRight_any w a c _ l rfl (by omega) hr H5.out
  by_cases hk0 : k = 0
  · subst hk0
    have hd : ¬ (ln = 0 ∧ sz = 0 ∧ nd = 0 ∧ l.length = 0) := by
      intro h
      rw [okInd_free rfl, decide_eq_true h] at hok
      cases hok
    have HD := hid hd
    clear hok hd R
    by_cases q1 : ln = 0
    rotate_left
    · have q1b : (ln == 0) = false := by rw [beq_eq_false_iff_ne]; exact q1
      clear HD
      go_enter Try.func81, Try.ntmps81
      go_wp2
      go_ret2
      exact ⟨rfl, (Below.refl _ w).alloc (Nat.le_refl _) _⟩
    subst q1
    by_cases q2 : sz = 0
    rotate_left
    · have q2b : (sz == 0) = false := by rw [beq_eq_false_iff_ne]; exact q2
      clear HD
      go_enter Try.func81, Try.ntmps81
      go_wp2
      go_ret2
      exact ⟨rfl, (Below.refl _ w).alloc (Nat.le_refl _) _⟩
    subst q2
    by_cases q3 : nd = 0
    rotate_left
    · have q3b : (nd == 0) = false := by rw [beq_eq_false_iff_ne]; exact q3
      clear HD
      go_enter Try.func81, Try.ntmps81
      go_wp2
      go_ret2
      exact ⟨rfl, (Below.refl _ w).alloc (Nat.le_refl _) _⟩
    subst q3
    have q4 : ((l.length : Int) == 0) = false := by rw [beq_eq_false_iff_ne]; have := HD.out; omega
    have q5 : ¬ l.length = 0 := by have := HD.out; omega
    clear HD
    go_enter Try.func81, Try.ntmps81
    go_wp2
    go_ret2
    exact ⟨rfl, (Below.refl _ w).alloc (Nat.le_refl _) _⟩
  · have hk1 : ((k : Int) == 0) = false := by rw [beq_eq_false_iff_ne]; omega
    rw [okInd_kind hk0] at hok
    by_cases hd : k ≤ 2 ∧ (0 ≤ ln ∧ ln ≤ 100) ∧ (0 ≤ sz ∧ sz ≤ 131072) ∧ (0 ≤ nd ∧ nd ≤ 511) ∧ l.length ≤ 3
    · rw [decide_eq_true hd, Bool.true_and] at hok
      rw [hok] at R
      obtain ⟨d1, ⟨d2, d3⟩, ⟨d4, d5⟩, ⟨d6, d7⟩, d8⟩ := hd
      clear hok hk0
      go_enter Try.func81, Try.ntmps81
      go_wp2_with fail
      refine (R _ (hr.below ((Below.refl _ w).alloc (Nat.le_refl _) _))).mono ?_
      rintro e w1 ⟨rfl, b1⟩
      have bw1 := ((Below.refl _ w).alloc (Nat.le_refl _) _).trans (b1.mono (by simp))
      go_wp2
      go_ret2
      exact ⟨rfl, bw1⟩
    · have HD := hid hd
      clear hok hd hk0 R
      by_cases q1 : k ≤ 2
      rotate_left
      · replace q1 := Int.not_le.1 (by omega : ¬ ((k : Int) ≤ 2))
        clear HD
        go_enter Try.func81, Try.ntmps81
        go_wp2
        go_ret2
        exact ⟨rfl, (Below.refl _ w).alloc (Nat.le_refl _) _⟩
      by_cases q2 : 0 ≤ ln
      rotate_left
      · replace q2 := Int.not_le.1 (by omega : ¬ (0 ≤ ln))
        clear HD
        go_enter Try.func81, Try.ntmps81
        go_wp2
        go_ret2
        exact ⟨rfl, (Below.refl _ w).alloc (Nat.le_refl _) _⟩
      by_cases q3 : ln ≤ 100
      rotate_left
      · replace q3 := Int.not_le.1 (by omega : ¬ (ln ≤ 100))
        clear HD
        go_enter Try.func81, Try.ntmps81
        go_wp2
        go_ret2
        exact ⟨rfl, (Below.refl _ w).alloc (Nat.le_refl _) _⟩
      by_cases q4 : 0 ≤ sz
      rotate_left
      · replace q4 := Int.not_le.1 (by omega : ¬ (0 ≤ sz))
        clear HD
        go_enter Try.func81, Try.ntmps81
        go_wp2
        go_ret2
        exact ⟨rfl, (Below.refl _ w).alloc (Nat.le_refl _) _⟩
      by_cases q5 : sz ≤ 131072
      rotate_left
      · replace q5 := Int.not_le.1 (by omega : ¬ (sz ≤ 131072))
        clear HD
        go_enter Try.func81, Try.ntmps81
        go_wp2
        go_ret2
        exact ⟨rfl, (Below.refl _ w).alloc (Nat.le_refl _) _⟩
      by_cases q6 : 0 ≤ nd
      rotate_left
      · replace q6 := Int.not_le.1 (by omega : ¬ (0 ≤ nd))
        clear HD
        go_enter Try.func81, Try.ntmps81
        go_wp2
        go_ret2
        exact ⟨rfl, (Below.refl _ w).alloc (Nat.le_refl _) _⟩
      by_cases q7 : nd ≤ 511
      rotate_left
      · replace q7 := Int.not_le.1 (by omega : ¬ (nd ≤ 511))
        clear HD
        go_enter Try.func81, Try.ntmps81
        go_wp2
        go_ret2
        exact ⟨rfl, (Below.refl _ w).alloc (Nat.le_refl _) _⟩
      have q8 : 3 < l.length := by have := HD.out; omega
      clear HD
      go_enter Try.func81, Try.ntmps81
      go_wp2
      go_ret2
      exact ⟨rfl, (Below.refl _ w).alloc (Nat.le_refl _) _⟩
end Go.Proofs.Ytahlhdhljjpeoaa

/- The document's PutInode. -/
namespace Go.Proofs.Ytahlhdhljjpeoaa
open Go.RowKit
set_option maxHeartbeats 1600000
set_option linter.unusedVariables false
set_option linter.unusedSimpArgs false

set_option maxRecDepth 100000 in
theorem refPutInode_any (w : World) (n : Ind) (a : Option Addr) (c : Nat) (hi : n.in_) (hr : RdX w a n.dir) :
    Calls Try.prog 81 #[n.val a c] w fun e w' => ∃ A c', e = .returned (.tuple #[.slice A (putInd n).length c', .int .i64 (errInd n)]) ∧ OwnB w.heap.size w' A c' (putInd n) ∧ Below w.heap.size w w' := by
  have hmk := fun W => run_mkB 64 64 64 rfl rfl (by decide) W
  by_cases hok : okInd n = true
  · have hp := hid (show putInd n = indB n by rw [putInd, if_pos hok])
    have he := hid (show errInd n = 0 by rw [errInd, if_pos hok])
    have hL := hid (indB_length (okInd_len hok))
    rw [hp.out, he.out]
    by_cases hk0 : n.k = 0
    · have hz := hid (show indB n = zeros 64 by rw [indB, if_pos hk0])
      rw [hz.out]
      obtain ⟨k, ln, sz, nd, l⟩ := n
      simp only [Ind.val, indCells] at *
      subst hk0
      rw [okInd_free rfl, decide_eq_true_eq] at hok
      obtain ⟨rfl, rfl, rfl, h4⟩ := hok
      obtain rfl := List.eq_nil_of_length_eq_zero h4
      clear h4
      simp only [List.length_nil]
      go_enter Try.func81, Try.ntmps81
      go_wp2
      go_ret2
      exact ⟨_, _, rfl, (by have := OwnB.made (base := w.heap.size) (w.alloc (.cells #[.int .u8 0, .int .i64 0, .int .i64 0, .slice a 0 c, .int .i64 0] 54)) 64 (by simp) (by decide); simpa using this), ((Below.refl _ w).alloc (Nat.le_refl _) _).alloc (by simp) _⟩
    · have hb := hid (show indB n = indM n ++ be (crcMore 0 (indM n)) 4 by rw [indB, if_neg hk0])
      have hd : okInd n = _ := if_neg hk0
      rw [hok] at hd
      replace hd := hd.symm
      rw [Bool.and_eq_true, decide_eq_true_eq] at hd
      obtain ⟨⟨d1, ⟨d2, d3⟩, ⟨d4, d5⟩, ⟨d6, d7⟩, d8⟩, d9⟩ := hd
      have LF := hid (indF_length d8)
      have LM := hid (indM_length d8)
      have EF := hid (show indF n = ([byteOf n.k, byteOf n.dir.length] ++ be n.ln.toNat 2 ++ be n.sz.toNat 4 ++ xsTo n.dir n.dir.length) ++ zeros (18 - 6 * n.dir.length) from rfl)
      have EM := hid (show indM n = (indF n ++ be n.nd.toNat 2) ++ zeros 32 from rfl)
      have HB := hid (show badTo n.dir n.dir.length = false by simpa [rightX] using d9)
      have hx := hid hi.2.2.2.2.2
      have hk8 := hi.1
      clear hok hi
      rw [hb.out]
      obtain ⟨F, hF⟩ : ∃ F, F = indF n := ⟨_, rfl⟩
      obtain ⟨M, hM⟩ : ∃ M, M = indM n := ⟨_, rfl⟩
      rw [← hF] at LF EF EM
      rw [← hM] at LM EM hb ⊢
      rw [hb.out] at hL
      clear hF hM hp he hb
      obtain ⟨k, ln, sz, nd, l⟩ := n
      simp only [Ind.val, indCells] at *
      have R := fun w hr => refRight_any w a c _ l rfl (by omega) hr hx.out
      rw [d9] at R
      obtain ⟨ln, rfl⟩ := Int.eq_ofNat_of_zero_le d2
      obtain ⟨sz, rfl⟩ := Int.eq_ofNat_of_zero_le d4
      obtain ⟨nd, rfl⟩ := Int.eq_ofNat_of_zero_le d6
      simp only [Int.toNat_natCast] at EF EM
      have hk1 : ((k : Int) == 0) = false := by rw [beq_eq_false_iff_ne]; omega
      have hk2 : 1 ≤ k := by omega
      clear hk0 d9
      go_enter Try.func81, Try.ntmps81
      go_wp2_with fail
      refine (R _ (hr.below ((Below.refl _ w).alloc (Nat.le_refl _) _))).mono ?_
      rintro e w1 ⟨rfl, b1⟩
      have bw1 := ((Below.refl _ w).alloc (Nat.le_refl _) _).trans (b1.mono (by simp))
      have hrow := hid (keptN b1)
      obtain ⟨f0, f1, f2, f3, f4⟩ := five hrow.out
      have sv := And.intro f0 (And.intro f1 (And.intro f2 f3))
      have hw8 : IntKind.i64.wrap (k : Int) = (k : Int) := IntWalk.i64_in _ (by omega)
      have EQ := hid (show [] ++ be k 1 ++ be l.length 1 ++ be ln 2 ++ be sz 4 = [byteOf k, byteOf l.length] ++ be ln 2 ++ be sz 4 by rw [be1, be1]; rfl)
      have l0 : ([] : List UInt8).length = 0 := rfl
      have l1 : ([] ++ be k 1).length = 1 := by simp [be_length]
      have l2 : ([] ++ be k 1 ++ be l.length 1).length = 2 := by simp [be_length]
      have l3 : ([] ++ be k 1 ++ be l.length 1 ++ be ln 2).length = 4 := by simp [be_length]
      have L0 := hid l0; have L1 := hid l1; have L2 := hid l2; have L3 := hid l3
      have LL1 := hid (show ([byteOf k, byteOf l.length] ++ be ln 2 ++ be sz 4).length = 8 by simp [be_length])
      have LL2 := hid (show ([byteOf k, byteOf l.length] ++ be ln 2 ++ be sz 4 ++ xsTo l l.length).length = 8 + 6 * l.length by simp only [List.length_append, xsTo_length, be_length]; rfl)
      clear b1 R l0 l1 l2 l3 f0 f1 f2 f3 f4
      have r0 : RdB w1.drew none [] := RdB.nil _ _
      go_wp2_with fail
      go_region_held3 (fun W => W.cell? ⟨w.heap.size, 0, none⟩ = some (.int .u8 (k : Int)) ∧ W.cell? ⟨w.heap.size, 1, none⟩ = some (.int .i64 (ln : Int)) ∧ W.cell? ⟨w.heap.size, 2, none⟩ = some (.int .i64 (sz : Int)) ∧ W.cell? ⟨w.heap.size, 3, none⟩ = some (.slice a l.length c))
        (first | exact sv | exact s1 | exact s2 | exact s3 | exact s4)
        (first
        | (go_at_call_of 106 (k); refine (radd1_any w1.drew _ _ _ [] k L0.out (by decide) r0 (by omega)).mono ?_; rintro e w2 ⟨A2, c2, rfl, g2, b2⟩; have bb2 := below_drew' b2; have s1 := keep4' sv bb2)
        | (go_at_call_of 106 (l.length); refine (radd1_any _ _ _ _ ([] ++ be k 1) l.length L1.out (by decide) g2.rd (by omega)).mono ?_; rintro e w3 ⟨A3, c3, rfl, g3, b3⟩; have bb3 := bb2.trans (b3.mono bb2.size); have s2 := keep4' sv bb3)
        | (go_at_call_of 106 (ln); refine (radd2_any _ _ _ _ ([] ++ be k 1 ++ be l.length 1) ln L2.out (by decide) g3.rd (by omega)).mono ?_; rintro e w4 ⟨A4, c4, rfl, g4, b4⟩; have bb4 := bb3.trans (b4.mono bb3.size); have s3 := keep4' sv bb4)
        | (go_at_call_of 106 (sz); refine (radd4_any _ _ _ _ ([] ++ be k 1 ++ be l.length 1 ++ be ln 2) sz L3.out (by decide) g4.rd (by omega)).mono ?_; rintro e w5 ⟨A5, c5, rfl, g5, b5⟩; have bb5 := bb4.trans (b5.mono bb4.size); have s4 := keep4' sv bb5))
      rw [EQ.out] at g5
      have g5m := g5.mono bb4.size
      clear hw8 sv s1 s2 s3 g2 g3 g4 g5 b2 b3 b4 b5 bb2 bb3 bb4 EQ L0 L1 L2 L3 r0
      obtain ⟨f0, f1, f2, f3, f4⟩ := five (kept1 bb5 hrow.out)
      clear s4
      go_wp2_with fail
      refine (refextents_any _ _ _ 8 ([byteOf k, byteOf l.length] ++ be ln 2 ++ be sz 4) LL1.out (by decide) w1.heap.size bb5.size g5m _ _ _ l rfl (by omega) (hr.below (bw1.trans (bb5.mono bw1.size))) HB.out).mono ?_
      rintro e w6 ⟨A6, c6, rfl, g6, b6⟩
      have bb6 := bb5.trans (b6.mono bb5.size)
      clear f0 f1 f2 f3 f4 b6 g5m
      obtain ⟨P, hP⟩ : ∃ P, P = [byteOf k, byteOf l.length] ++ be ln 2 ++ be sz 4 ++ xsTo l l.length := ⟨_, rfl⟩
      rw [← hP] at g6 EF LL2
      clear hP
      go_wp2_with fail
      go_loopw [4] (fun x wr => ∃ (j : Nat) (A : Option Addr) (c' : Nat), j ≤ 18 - 6 * l.length ∧ x = .slice A (8 + 6 * l.length + j) c' ∧ OwnB w1.heap.size wr A c' (P ++ zeros j) ∧ Below w1.heap.size w1 wr) (fun x _ => 26 - lenOfV x)
      case atStart => exact ⟨0, A6, c6, by omega, by simp, by simpa [zeros] using g6, bb6⟩
      case round =>
        obtain ⟨j, A, c', hj, rfl, hO, hbl⟩ := hrel
        by_cases hlt : j < 18 - 6 * l.length
        · have hlt' : 8 + 6 * l.length + j < 26 := by omega
          have HO' := hid hO; clear hO
          go_wp2_with (at_builtin; refine app_bytes rfl (.tmp 94) (.tmp 95) rfl w1.heap.size A c' (8 + 6 * l.length + j) (P ++ zeros j) (by rw [List.length_append, LL2.out, zeros_length]) rfl (HO'.out.below ((Below.refl _ _).alloc (Nat.le_refl _) _)) (some ⟨_, 0, none⟩) 1 1 [0] rfl rfl (RdB.lit _ _ _ _ (by simp [B8s, B8]) rfl) (8 + 6 * l.length + j + 1) (by rw [List.length_append, LL2.out, zeros_length]; rfl) (by rw [List.length_append, LL2.out, zeros_length]; simp; omega) w1 (hbl.alloc hbl.size _) (by have := hbl.size; simp; omega) ?_; intro A1 c1 w7 h7 b7 _ _)
          go_roundw
          case rel => exact ⟨j + 1, A1, c1, by omega, rfl, by rw [zeros_succ, ← List.append_assoc]; exact h7, b7⟩
          case measure => simp [lenOfV]; omega
        · obtain rfl : j = 18 - 6 * l.length := by omega
          have hk4 : 8 + 6 * l.length + (18 - 6 * l.length) = 26 := by omega
          rw [hk4]
          rw [← EF.out] at hO
          have hOr := hO.rd
          obtain ⟨f0, f1, f2, f3, f4⟩ := five (kept1 hbl hrow.out)
          have LF2 := hid (show (F ++ be nd 2).length = 28 by rw [List.length_append, LF.out, be_length])
          clear hk4 hlt hj hO
          go_wp2_with fail
          refine (radd2_any _ _ _ _ F nd LF.out (by decide) hOr (by omega)).mono ?_
          rintro e w8 ⟨A8, c8, rfl, g8, b8⟩
          have bb8 := hbl.trans (b8.mono hbl.size)
          have g8 := g8.mono hbl.size
          clear f0 f1 f2 f3 f4 b8 hOr
          obtain ⟨wo, hwo⟩ : ∃ wo : World, wo = wr := ⟨_, rfl⟩
          clear hwo wo
          go_wp2_with fail
          go_loopw [4] (fun x wr => ∃ (j : Nat) (A : Option Addr) (c' : Nat), j ≤ 32 ∧ x = .slice A (28 + j) c' ∧ OwnB w1.heap.size wr A c' (F ++ be nd 2 ++ zeros j) ∧ Below w1.heap.size w1 wr) (fun x _ => 60 - lenOfV x)
          case atStart => exact ⟨0, A8, c8, by omega, rfl, by simpa [zeros] using g8, bb8⟩
          case round =>
            obtain ⟨j, A, c', hj, rfl, hO, hbl⟩ := hrel
            by_cases hlt : j < 32
            · have hlt' : 28 + j < 60 := by omega
              have HO' := hid hO; clear hO
              go_wp2_with (at_builtin; refine app_bytes rfl (.tmp 104) (.tmp 105) rfl w1.heap.size A c' (28 + j) (F ++ be nd 2 ++ zeros j) (by rw [List.length_append, LF2.out, zeros_length]) rfl (HO'.out.below ((Below.refl _ _).alloc (Nat.le_refl _) _)) (some ⟨_, 0, none⟩) 1 1 [0] rfl rfl (RdB.lit _ _ _ _ (by simp [B8s, B8]) rfl) (28 + j + 1) (by rw [List.length_append, LF2.out, zeros_length]; rfl) (by rw [List.length_append, LF2.out, zeros_length]; simp; omega) w1 (hbl.alloc hbl.size _) (by have := hbl.size; simp; omega) ?_; intro A1 c1 w9 h9 b9 _ _)
              go_roundw
              case rel => exact ⟨j + 1, A1, c1, by omega, rfl, by rw [zeros_succ, ← List.append_assoc]; exact h9, b9⟩
              case measure => simp [lenOfV]; omega
            · obtain rfl : j = 32 := by omega
              rw [← EM.out] at hO
              have hOr := hO.rd
              have HC := crcMore_lt 0 M
              clear hlt hj hO
              go_wp2_with fail
              refine (refMore_any _ 0 _ rfl (by omega) _ _ _ M LM.out.symm (by rw [LM.out]; decide) hOr).mono ?_
              rintro e w' ⟨rfl, rfl⟩
              go_wp2_with fail
              refine (radd4_any _ _ _ _ M (crcMore 0 M) LM.out (by decide) hOr (by omega)).mono ?_
              rintro e wf ⟨Af, cf, rfl, gf, bf⟩
              have bbf := hbl.trans (bf.mono hbl.size)
              go_wp2
              go_ret2
              refine ⟨Af, cf, ?_, gf.mono (bw1.trans (hbl.mono bw1.size)).size, bw1.trans (bbf.mono bw1.size)⟩
              rw [hL.out]
              rfl
  · have hok := eq_false_of_ne_true hok
    have hp := hid (show putInd n = [] by rw [putInd, hok]; rfl)
    have he := hid (show errInd n = 2 by rw [errInd, hok]; rfl)
    rw [hp.out, he.out]
    refine (refPutInode_no w n a c hi hr hok).mono ?_
    rintro e w' ⟨rfl, b⟩
    exact ⟨none, 0, rfl, OwnB.nil _ _, b⟩
end Go.Proofs.Ytahlhdhljjpeoaa
