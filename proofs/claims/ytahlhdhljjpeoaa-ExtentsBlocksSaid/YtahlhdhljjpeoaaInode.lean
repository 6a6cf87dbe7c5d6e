/- Inodes: PutInode. -/
import Derived.Test.YtahlhdhljjpeoaaNode3
import Derived.Deep.DeepCutAuto
namespace Go.Proofs.Ytahlhdhljjpeoaa
open Go.RowKit
set_option maxHeartbeats 1600000
set_option linter.unusedVariables false
set_option linter.unusedSimpArgs false

/-- An inode. -/
structure Ind where
  k : Nat
  ln : Int
  sz : Int
  nd : Int
  dir : List Ext
deriving DecidableEq
def indCells (n : Ind) (a : Option Addr) (c : Nat) : Array Value := #[.int .u8 (n.k : Int), .int .i64 n.ln, .int .i64 n.sz, .slice a n.dir.length c, .int .i64 n.nd]
def Ind.val (n : Ind) (a : Option Addr) (c : Nat) : Value := .agg (indCells n a c)
def Ind.in_ (n : Ind) : Prop := n.k < 256 ∧ (-9223372036854775808 ≤ n.ln ∧ n.ln ≤ 9223372036854775807) ∧ (-9223372036854775808 ≤ n.sz ∧ n.sz ≤ 9223372036854775807) ∧ (-9223372036854775808 ≤ n.nd ∧ n.nd ≤ 9223372036854775807) ∧ n.dir.length ≤ 7000000000000 ∧ okX n.dir
def okInd (n : Ind) : Bool := if n.k = 0 then decide (n.ln = 0 ∧ n.sz = 0 ∧ n.nd = 0 ∧ n.dir.length = 0) else decide (n.k ≤ 2 ∧ (0 ≤ n.ln ∧ n.ln ≤ 100) ∧ (0 ≤ n.sz ∧ n.sz ≤ 131072) ∧ (0 ≤ n.nd ∧ n.nd ≤ 511) ∧ n.dir.length ≤ 3) && rightX n.dir
/-- Its bytes: those ahead of the place of the block of more extents; those of which the sum is. -/
def indF (n : Ind) : List UInt8 := ([byteOf n.k, byteOf n.dir.length] ++ be n.ln.toNat 2 ++ be n.sz.toNat 4 ++ xsTo n.dir n.dir.length) ++ zeros (18 - 6 * n.dir.length)
def indM (n : Ind) : List UInt8 := (indF n ++ be n.nd.toNat 2) ++ zeros 32
def indB (n : Ind) : List UInt8 := if n.k = 0 then zeros 64 else indM n ++ be (crcMore 0 (indM n)) 4
def putInd (n : Ind) : List UInt8 := if okInd n then indB n else []
def errInd (n : Ind) : Int := if okInd n then 0 else 2
theorem five {w : World} {g : Nat} {t : TypeId} {x0 x1 x2 x3 x4 : Value} (h : w.heap[g]? = some (.cells #[x0, x1, x2, x3, x4] t (0, 0))) :
    w.cell? ⟨g, 0, none⟩ = some x0 ∧ w.cell? ⟨g, 1, none⟩ = some x1 ∧ w.cell? ⟨g, 2, none⟩ = some x2 ∧ w.cell? ⟨g, 3, none⟩ = some x3 ∧ w.cell? ⟨g, 4, none⟩ = some x4 := by
  refine ⟨?_, ?_, ?_, ?_, ?_⟩ <;> (rw [cell_of_row _ _ _ _ _ _ h]; rfl)
theorem heap_lt {w : World} {g : Nat} {o : Obj} (h : w.heap[g]? = some o) : g < w.heap.size := by
  rcases Nat.lt_or_ge g w.heap.size with h' | h'
  · exact h'
  · rw [Array.getElem?_eq_none h'] at h; cases h
theorem five_alloc {w : World} {g : Nat} {t : TypeId} {x0 x1 x2 x3 x4 : Value} (h : w.heap[g]? = some (.cells #[x0, x1, x2, x3, x4] t (0, 0))) :
    (∀ o, (w.alloc o).cell? ⟨g, 0, none⟩ = some x0) ∧ (∀ o, (w.alloc o).cell? ⟨g, 1, none⟩ = some x1) ∧ (∀ o, (w.alloc o).cell? ⟨g, 2, none⟩ = some x2) ∧ (∀ o, (w.alloc o).cell? ⟨g, 3, none⟩ = some x3) ∧ (∀ o, (w.alloc o).cell? ⟨g, 4, none⟩ = some x4) := by
  refine ⟨?_, ?_, ?_, ?_, ?_⟩ <;> (intro o; rw [cell_of_row _ _ _ _ _ _ ((heap_alloc_old w o (heap_lt h)).trans h)]; rfl)
theorem keptN {w w1 : World} {o : Obj} (b : Below (w.alloc o).heap.size (w.alloc o) w1) : w1.heap[w.heap.size]? = some o := (b.block w.heap.size (by simp)).trans (heap_alloc_new w _)
theorem kept1 {w w1 : World} {g : Nat} {r : Obj} (b : Below w.heap.size w w1) (h : w.heap[g]? = some r) : w1.heap[g]? = some r := (b.block g (heap_lt h)).trans h
theorem kept2 {w w1 : World} {o r : Obj} {g : Nat} (b : Below (w.alloc o).heap.size (w.alloc o) w1) (h : w.heap[g]? = some r) : w1.heap[g]? = some r := kept1 b ((heap_alloc_old w o (heap_lt h)).trans h)
theorem okInd_free {k : Nat} {ln sz nd : Int} {l : List Ext} (h : k = 0) : okInd ⟨k, ln, sz, nd, l⟩ = decide (ln = 0 ∧ sz = 0 ∧ nd = 0 ∧ l.length = 0) := if_pos h
theorem okInd_kind {k : Nat} {ln sz nd : Int} {l : List Ext} (h : k ≠ 0) : okInd ⟨k, ln, sz, nd, l⟩ = (decide (k ≤ 2 ∧ (0 ≤ ln ∧ ln ≤ 100) ∧ (0 ≤ sz ∧ sz ≤ 131072) ∧ (0 ≤ nd ∧ nd ≤ 511) ∧ l.length ≤ 3) && rightX l) := if_neg h
set_option maxRecDepth 100000 in
theorem rightInode_any (w : World) (n : Ind) (a : Option Addr) (c : Nat) (hi : n.in_) (hr : RdX w a n.dir) :
    Calls Try.prog 101 #[n.val a c] w fun e w' => e = .returned (.bool (okInd n)) ∧ Below w.heap.size w w' := by
  obtain ⟨k, ln, sz, nd, l⟩ := n
  obtain ⟨hk, h1, h2, h3, h4, h5⟩ := hi
  have H5 := hid h5; clear h5
  simp only [Ind.val, indCells] at *
  by_cases hk0 : k = 0
  · have HK := hid (okInd_free (ln := ln) (sz := sz) (nd := nd) (l := l) hk0)
    subst hk0
    obtain ⟨r, hre⟩ : ∃ r, r = okInd ⟨0, ln, sz, nd, l⟩ := ⟨_, rfl⟩
    rw [← hre] at HK ⊢
    clear hre
    go_enter Try.func101, Try.ntmps101
    go_wp2
    all_goals
      go_ret
      refine ⟨?_, (Below.refl _ w).alloc (Nat.le_refl _) _⟩
      rw [HK.out]
      show Ending.returned (Value.bool _) = Ending.returned (Value.bool _)
      congr 2
      rw [Bool.eq_iff_iff]
      first
      | (simp only [beq_iff_eq, decide_eq_true_eq, Bool.false_eq_true]; omega)
      | (simp; done)
      | (simp; omega)
  · have HK := hid (okInd_kind (ln := ln) (sz := sz) (nd := nd) (l := l) hk0)
    obtain ⟨r, hre⟩ : ∃ r, r = okInd ⟨k, ln, sz, nd, l⟩ := ⟨_, rfl⟩
    rw [← hre] at HK ⊢
    clear hre
    have hk1 : 1 ≤ k := by omega
    clear hk0
    have hk0 : ((k : Int) == 0) = false := by rw [beq_eq_false_iff_ne]; omega
    have rw_ := hr.below ((Below.refl _ w).alloc (Nat.le_refl _) (.cells #[.int .u8 (k : Int), .int .i64 ln, .int .i64 sz, .slice a l.length c, .int .i64 nd] 54))
    have HR := hid rw_; clear rw_
    go_enter Try.func101, Try.ntmps101
    go_wp2_with (first
      | (go_at_call 117; refine (within_any _ _ _ _).mono ?_; rintro e w' ⟨rfl, rfl⟩)
      | (go_at_call 47; refine (Right_any _ _ _ _ l rfl (by omega) HR.out H5.out).mono ?_; rintro e w1 ⟨rfl, b1⟩; have bw1 := ((Below.refl _ w).alloc (Nat.le_refl _) _).trans (b1.mono (by simp))))
    all_goals
      go_ret
      first
      | (refine ⟨?_, bw1⟩
         have hd : decide (k ≤ 2 ∧ (0 ≤ ln ∧ ln ≤ 100) ∧ (0 ≤ sz ∧ sz ≤ 131072) ∧ (0 ≤ nd ∧ nd ≤ 511) ∧ l.length ≤ 3) = true := decide_eq_true (by omega)
         rw [HK.out, hd, Bool.true_and]
         rfl)
      | (refine ⟨?_, (Below.refl _ w).alloc (Nat.le_refl _) _⟩
         have hd : decide (k ≤ 2 ∧ (0 ≤ ln ∧ ln ≤ 100) ∧ (0 ≤ sz ∧ sz ≤ 131072) ∧ (0 ≤ nd ∧ nd ≤ 511) ∧ l.length ≤ 3) = false := decide_eq_false (by omega)
         rw [HK.out, hd, Bool.false_and]
         rfl)
theorem be1 (n : Nat) : be n 1 = [byteOf n] := by simp [be, beTo, List.range_succ]
theorem indF_length {n : Ind} (h : n.dir.length ≤ 3) : (indF n).length = 26 := by simp [indF, be_length, xsTo_length, zeros_length]; omega
theorem indM_length {n : Ind} (h : n.dir.length ≤ 3) : (indM n).length = 60 := by simp [indM, be_length, indF_length h, zeros_length]
theorem indB_length {n : Ind} (h : n.k = 0 ∨ n.dir.length ≤ 3) : (indB n).length = 64 := by
  unfold indB
  split
  · simp [zeros_length]
  · simp [indM_length (h.resolve_left ‹_›), be_length]
theorem okInd_len {n : Ind} (h : okInd n = true) : n.k = 0 ∨ n.dir.length ≤ 3 := by
  unfold okInd at h
  split at h
  · exact .inl ‹_›
  · simp at h; exact .inr (by omega)
theorem putInd_length {n : Ind} (h : okInd n = true) : (putInd n).length = 64 := by rw [putInd, if_pos h]; exact indB_length (okInd_len h)
theorem keep2 {v W : World} {p q : Addr} {a b : Value} (h : v.cell? p = some a ∧ v.cell? q = some b) (bl : Below v.heap.size v W) :
    W.cell? p = some a ∧ W.cell? q = some b := ⟨cell_below bl h.1, cell_below bl h.2⟩
theorem byteOf_lt {n : Nat} (h : n < 256) : (byteOf n).toNat = n := by rw [byteOf, UInt8.toNat_ofNat']; omega
theorem two_bytes {k n : Nat} (hk : k < 256) (hn : n < 256) : (#[Value.int .u8 (k : Int), .int .u8 (n : Int)]).toList = B8s [byteOf k, byteOf n] := by
  simp [B8s, B8, byteOf_lt hk, byteOf_lt hn]
set_option maxRecDepth 100000 in
theorem PutInode_any (w : World) (n : Ind) (a : Option Addr) (c : Nat) (hi : n.in_) (hr : RdX w a n.dir) :
    Calls Try.prog 64 #[n.val a c] w fun e w' => ∃ A c', e = .returned (.tuple #[.slice A (putInd n).length c', .int .i64 (errInd n)]) ∧ OwnB w.heap.size w' A c' (putInd n) ∧ Below w.heap.size w w' := by
  have R := fun w hr => rightInode_any w n a c hi hr
  have hmk := fun W => run_mkB 64 64 64 rfl rfl (by decide) W
  by_cases hok : okInd n = true
  · have hp := hid (show putInd n = indB n by rw [putInd, if_pos hok])
    have he := hid (show errInd n = 0 by rw [errInd, if_pos hok])
    have hL := hid (indB_length (okInd_len hok))
    rw [hok] at R
    rw [hp.out, he.out]
    by_cases hk0 : n.k = 0
    · have hz := hid (show indB n = zeros 64 by rw [indB, if_pos hk0])
      rw [hz.out]
      obtain ⟨k, ln, sz, nd, l⟩ := n
      simp only [Ind.val, indCells] at *
      subst hk0
      clear hok
      go_enter Try.func64, Try.ntmps64
      go_wp2_with fail
      refine (R _ (hr.below ((Below.refl _ w).alloc (Nat.le_refl _) _))).mono ?_
      rintro e w1 ⟨rfl, b1⟩
      have bw1 := ((Below.refl _ w).alloc (Nat.le_refl _) _).trans (b1.mono (by simp))
      obtain ⟨c0, c1, c2, c3, c4⟩ := five (keptN b1)
      clear b1
      go_wp2
      go_ret2
      exact ⟨_, _, rfl, OwnB.made w1 64 bw1.size (by decide), bw1.alloc bw1.size _⟩
    · have hb := hid (show indB n = indM n ++ be (crcMore 0 (indM n)) 4 by rw [indB, if_neg hk0])
      have hd : okInd n = _ := if_neg hk0
      rw [hok] at hd
      replace hd := hd.symm
      rw [Bool.and_eq_true, decide_eq_true_eq] at hd
      obtain ⟨⟨d1, ⟨d2, d3⟩, ⟨d4, d5⟩, ⟨d6, d7⟩, d8⟩, d9⟩ := hd
      have LF := hid (indF_length d8)
      have LM := hid (indM_length d8)
      have EF := hid (show indF n = ([byteOf n.k, byteOf n.dir.length] ++ be n.ln.toNat 2 ++ be n.sz.toNat 4 ++ xsTo n.dir n.dir.length) ++ zeros (18 - 6 * n.dir.length) from rfl)
      have EM := hid (show indM n = (indF n ++ be n.nd.toNat 2) ++ zeros 32 from rfl)
      have HB := hid (show badTo n.dir n.dir.length = false by simpa [rightX] using d9)
      have hx := hid hi.2.2.2.2.2
      have hk8 := hi.1
      clear hok hi
      rw [hb.out]
      obtain ⟨F, hF⟩ : ∃ F, F = indF n := ⟨_, rfl⟩
      obtain ⟨M, hM⟩ : ∃ M, M = indM n := ⟨_, rfl⟩
      rw [← hF] at LF EF EM
      rw [← hM] at LM EM hb ⊢
      rw [hb.out] at hL
      clear hF hM hp he hb
      obtain ⟨k, ln, sz, nd, l⟩ := n
      simp only [Ind.val, indCells] at *
      obtain ⟨ln, rfl⟩ := Int.eq_ofNat_of_zero_le d2
      obtain ⟨sz, rfl⟩ := Int.eq_ofNat_of_zero_le d4
      obtain ⟨nd, rfl⟩ := Int.eq_ofNat_of_zero_le d6
      simp only [Int.toNat_natCast] at EF EM
      have hk1 : ((k : Int) == 0) = false := by rw [beq_eq_false_iff_ne]; omega
      have hk2 : 1 ≤ k := by omega
      clear hk0 d9
      go_enter Try.func64, Try.ntmps64
      go_wp2_with fail
      refine (R _ (hr.below ((Below.refl _ w).alloc (Nat.le_refl _) _))).mono ?_
      rintro e w1 ⟨rfl, b1⟩
      have bw1 := ((Below.refl _ w).alloc (Nat.le_refl _) _).trans (b1.mono (by simp))
      have hrow := hid (keptN b1)
      obtain ⟨f0, f1, f2, f3, f4⟩ := five hrow.out
      obtain ⟨e0, e1, e2, e3, e4⟩ := five_alloc hrow.out
      clear b1
      have bytes2 := hid (two_bytes (n := l.length) hk8 (by omega))
      have LL0 := hid (show ([byteOf k, byteOf l.length] ++ be ln 2).length = 4 by simp [be_length])
      have LL1 := hid (show ([byteOf k, byteOf l.length] ++ be ln 2 ++ be sz 4).length = 8 by simp [be_length])
      have LL2 := hid (show ([byteOf k, byteOf l.length] ++ be ln 2 ++ be sz 4 ++ xsTo l l.length).length = 8 + 6 * l.length by simp only [List.length_append, xsTo_length, be_length]; rfl)
      go_wp2_with fail
      refine (Add16_any _ _ _ _ [byteOf k, byteOf l.length] rfl ln _ rfl (by simp) (RdB.lit w1 _ _ _ bytes2.out rfl) (by omega)).mono ?_
      rintro e w2 ⟨A2, c2, rfl, g2, b2⟩
      have bb2 := ((Below.refl _ w1).alloc (Nat.le_refl _) _).trans (b2.mono (by simp))
      obtain ⟨x0, x1, x2, x3, x4⟩ := five (kept1 bb2 hrow.out)
      have sv := And.intro x2 x3
      have hr2 := hr.below (bw1.trans (bb2.mono bw1.size))
      have g2r : RdB w2.drew A2 ([byteOf k, byteOf l.length] ++ be ln 2) := g2.rd
      clear x0 x1 x2 x3 x4 f0 f1 f2 f3 f4 e0 e1 e2 e3 e4 b2
      have hw32 : IntKind.u32.wrap (sz : Int) = (sz : Int) := IntWalk.u32_in _ (by omega)
      go_wp2_with fail
      go_region_held3 (fun W => W.cell? ⟨w.heap.size, 2, none⟩ = some (.int .i64 (sz : Int)) ∧ W.cell? ⟨w.heap.size, 3, none⟩ = some (.slice a l.length c))
        (first | exact sv | exact s3 | exact s4)
        (first
        | (go_at_call 86; refine (Add32_any w2.drew _ _ _ ([byteOf k, byteOf l.length] ++ be ln 2) LL0.out.symm sz _ rfl (by rw [LL0.out]; decide) g2r (by omega)).mono ?_; rintro e w3 ⟨A3, c3, rfl, g3, b3⟩; have bd3 := below_drew' b3; have bb3 := bb2.trans (bd3.mono bb2.size); have s3 := keep2 sv bd3; have r3 := hr2.below bd3; have g3' := g3.mono (show w1.heap.size ≤ w2.drew.heap.size from bb2.size))
        | (go_at_call 85; refine (extents_any _ _ _ 8 ([byteOf k, byteOf l.length] ++ be ln 2 ++ be sz 4) LL1.out (by decide) w1.heap.size bb3.size g3' _ _ _ l rfl (by omega) r3 HB.out).mono ?_; rintro e w4 ⟨A4, c4, rfl, g4, b4⟩; have bb4 := bb3.trans (b4.mono bb3.size); have s4 := keep2 s3 b4))
      clear hw32 sv s3 s4 g2 g2r hr2 r3 g3 g3' b3 bd3 b4
      go_wp2_with (at_builtin; refine app_zeros rfl (.tmp 33) (.tmp 36) rfl w1.heap.size A4 c4 (8 + 6 * l.length) ([byteOf k, byteOf l.length] ++ be ln 2 ++ be sz 4 ++ xsTo l l.length) LL2.out.symm rfl g4 (18 - 6 * l.length) _ (by omega) rfl 26 (by rw [LL2.out]; omega) (by rw [LL2.out]; omega) w1 bb4 bb4.size ?_; intro A5 c5 w5 g5 bb5; obtain ⟨f0, f1, f2, f3, f4⟩ := five (kept1 bb5 hrow.out))
      rw [← EF.out] at g5
      clear g4 bb4
      have g5r := g5.rd
      refine (Add16_any _ _ _ _ F LF.out.symm nd _ rfl (by rw [LF.out]; decide) g5r (by omega)).mono ?_
      rintro e w6 ⟨A6, c6, rfl, g6, b6⟩
      have bb6 := bb5.trans (b6.mono bb5.size)
      have g6 := g6.mono bb5.size
      have LF2 := hid (show (F ++ be nd 2).length = 28 by rw [List.length_append, LF.out, be_length])
      clear f0 f1 f2 f3 f4 g5 g5r b6
      go_wp2_with (at_builtin; refine app_zeros rfl (.tmp 43) (.tmp 46) rfl w1.heap.size A6 c6 28 (F ++ be nd 2) LF2.out.symm rfl g6 32 _ (by omega) rfl 60 (by rw [LF2.out]) (by rw [LF2.out]; decide) w1 bb6 bb6.size ?_; intro A7 c7 w7 g7 bb7)
      rw [← EM.out] at g7
      have g7r := g7.rd
      have HC := hid (crcMore_lt 0 M)
      refine (Crc_any _ _ _ _ M LM.out.symm (by rw [LM.out]; decide) g7r).mono ?_
      rintro e w8 ⟨rfl, b8⟩
      have bb8 := bb7.trans (b8.mono bb7.size)
      go_wp2_with fail
      refine (Add32_any _ _ _ _ M LM.out.symm (crcMore 0 M) _ rfl (by rw [LM.out]; decide) (g7r.below b8) HC.out).mono ?_
      rintro e w9 ⟨A9, c9, rfl, g9, b9⟩
      have bb9 := bb8.trans (b9.mono bb8.size)
      go_wp2
      go_ret2
      refine ⟨A9, c9, ?_, g9.mono (bw1.trans (bb8.mono bw1.size)).size, bw1.trans (bb9.mono bw1.size)⟩
      rw [hL.out]
      rfl
  · have hok := eq_false_of_ne_true hok
    have hp := hid (show putInd n = [] by rw [putInd, hok]; rfl)
    have he := hid (show errInd n = 2 by rw [errInd, hok]; rfl)
    rw [hp.out, he.out]
    rw [hok] at R
    obtain ⟨k, ln, sz, nd, l⟩ := n
    simp only [Ind.val, indCells] at *
    clear hok
    go_enter Try.func64, Try.ntmps64
    go_wp2_with fail
    refine (R _ (hr.below ((Below.refl _ w).alloc (Nat.le_refl _) _))).mono ?_
    rintro e w1 ⟨rfl, b1⟩
    have bw1 := ((Below.refl _ w).alloc (Nat.le_refl _) _).trans (b1.mono (by simp))
    go_wp2
    go_ret2
    exact ⟨none, 0, rfl, OwnB.nil _ _, bw1⟩
end Go.Proofs.Ytahlhdhljjpeoaa
