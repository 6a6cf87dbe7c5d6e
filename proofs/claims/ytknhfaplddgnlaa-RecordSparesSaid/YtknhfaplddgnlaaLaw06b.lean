/- RecordSpares, the walk (printed by gen06r.py). -/
import Derived.Test.YtknhfaplddgnlaaRecAB
import Derived.Test.YtknhfaplddgnlaaRecAC
namespace Go.Proofs.Ytknhfaplddgnlaa
open Go.RowKit
set_option maxHeartbeats 1500000
set_option maxRecDepth 100000
set_option linter.unusedVariables false
set_option linter.unusedSimpArgs false

theorem set3b {w : World} {g : Nat} {a b c : Value} {t : TypeId} (h : w.heap[g]? = some (.cells #[a, b, c] t (0, 0))) (z : Value) :
    (w.setCell ⟨g, 2, none⟩ z).heap[g]? = some (.cells #[a, b, z] t (0, 0)) ∧ Kpt (fun b => b = g) w (w.setCell ⟨g, 2, none⟩ z) :=
  ⟨heap_setCell_same _ _ 2 _ _ z h, (Kpt.refl (fun b => b = g) w).stc rfl z⟩
theorem vals_rd {base L n c : Nat} {w : World} {gs : List (Nat × Nat)} (h : w.ownsRow base 31 1 (.slice (some ⟨L, 0, none⟩) n c) n (vals gs)) : RdV w (some ⟨L, 0, none⟩) (vals gs) := by
  refine fun _ => ⟨L, 0, rfl, fun i v hv => ?_⟩
  have hi : i < n := by
    have h1 := h.1
    have h2 := (List.getElem?_eq_some_iff.1 hv).1
    omega
  rw [Nat.zero_add, World.ownsRow.cellAt h i (by omega), hv]
theorem spares_any (w : World) (ep seq : Int) (a : Option Addr) (N c : Nat) (ims : List Img) (hN : N = ims.length) (hNl : N ≤ 4398046511104) (hg : RdG w a ims) (hgl : ∀ x ∈ ims, x.2.length ≤ 200000000000000) :
    Calls Try.prog 6 #[.agg #[.int .i64 ep, .int .i64 seq, .slice a N c]] w fun e w' => e = .returned (.bool true) ∧ Below w.heap.size w w' := by
  have hrow0 := heap_alloc_new w (.cells #[.int .i64 ep, .int .i64 seq, .slice a N c] 28)
  have hb0 : Below w.heap.size w (w.alloc (.cells #[.int .i64 ep, .int .i64 seq, .slice a N c] 28)) := (Below.refl _ _).alloc (Nat.le_refl _) _
  have hz0 : (w.alloc (.cells #[.int .i64 ep, .int .i64 seq, .slice a N c] 28)).heap.size = w.heap.size + 1 := by simp
  obtain ⟨w0, hw0⟩ : ∃ w0, w0 = w.alloc (.cells #[.int .i64 ep, .int .i64 seq, .slice a N c] 28) := ⟨_, rfl⟩
  obtain ⟨q0, q1, q2⟩ := cells3 hrow0
  rw [← hw0] at hb0 hrow0 hz0
  have CI := CopyImages_wide w0 a c N ims hN (by omega) hgl (hg.below hb0)
  rw [hw0] at CI
  have HN := hid hN; have HW0 := hid hw0
  clear hN hw0 hg hgl
  go_enter Try.func6, Try.ntmps6
  go_wp2_with fail
  refine CI.mono ?_
  rw [← HW0.out]
  rintro e w1 ⟨A1, c1, av1, rfl, row1, own1, b1⟩
  clear CI q0 q1 q2
  have hrow1 := (b1.block _ (heap_in hrow0)).trans hrow0
  have hs := set3b hrow1 (.slice A1 N c1)
  have hz1 : w0.heap.size ≤ w1.heap.size := b1.size
  have row2 := ownsRow_kpt row1 hs.2 (fun b hb h => by have := own_base row1 b hb; omega)
  have own2 : OwA w0.heap.size (w1.setCell ⟨w.heap.size, 2, none⟩ (.slice A1 N c1)) av1 (ims.map (·.2)) := own1.kpt hs.2 (fun p hp b hb h => by
    obtain ⟨l, hl⟩ := own1.get hp
    have := (hl.blk hb).1
    omega)
  have b2 := belowK (hb0.trans (b1.mono hb0.size)) hs.2 (fun b hb => by omega) (by omega)
  have g2 := own2.rdg HN.out row2
  obtain ⟨r0, r1, r2⟩ := cells3 hrow1
  have f2 := frozen_of_row _ w.heap.size 2 _ _ hrow1
  have PT := Put_any (w1.setCell ⟨w.heap.size, 2, none⟩ (.slice A1 N c1)) ep seq A1 N c1 ims HN.out g2
  obtain ⟨v0, v1, v2⟩ := cells3 hs.1
  have HS := hid hs.1; have R2 := hid row2; have O2 := hid own2; have B2 := hid b2; have G2 := hid g2
  have hsz2 : (w1.setCell ⟨w.heap.size, 2, none⟩ (.slice A1 N c1)).heap.size = w1.heap.size := by simp
  have HZ2 := hid hsz2
  clear hs row1 own1 row2 own2 b1 b2 g2 hrow1 hrow0 hb0 hsz2
  cases hR : rightG ep seq ims with
  | false => as_aux_lemma =>
    have HR := hid hR
    clear hR
    go_wp2_with fail
    refine PT.mono ?_
    rintro e w3 ⟨b3, p3, _⟩
    obtain rfl := p3 HR.out
    clear p3 PT v0 v1 v2 r0 r1 r2 f2
    have HB := hid (B2.out.trans (b3.mono B2.out.size))
    clear b3
    go_wp2_with fail
    refine (awake06_any _).mono ?_
    rintro e w4 ⟨rfl, b4⟩
    go_wp2
    go_ret
    exact ⟨rfl, HB.out.trans (b4.mono HB.out.size)⟩
  | true => as_aux_lemma =>
    have hro := rightG_out hR
    obtain ⟨E, hE⟩ : ∃ E : Nat, ep = (E : Int) := ⟨ep.toNat, by omega⟩
    obtain ⟨Q, hQ⟩ : ∃ Q : Nat, seq = (Q : Int) := ⟨seq.toNat, by omega⟩
    subst hE hQ
    have h1N : 1 ≤ N := by have := hro.2.2.2.2.1; have := HN.out; omega
    have hN32 : N ≤ 32 := by have := hro.2.2.2.2.2.1; have := HN.out; omega
    have hok : okP ims := hro.2.2.2.2.2.2
    have h4 : ∀ l ∈ ims.map (·.2), l.length = 4096 := by
      intro l hl
      obtain ⟨x, hx, rfl⟩ := List.mem_map.1 hl
      exact (hok.1 x hx).2.2
    obtain ⟨gs1, hk1, hv1⟩ := O2.out.blk h4
    have hI1 : OwIm w0.heap.size (w1.setCell ⟨w.heap.size, 2, none⟩ (.slice A1 N c1)) A1 c1 (ims.map (·.1)) gs1 (ims.map (·.2)) := by
      refine ⟨?_, hk1, by have := hk1.len; simpa using this.symm⟩
      have := R2.out
      rw [hv1] at this
      simpa [← HN.out] using this
    have HR := hid hR; have HK1 := hid hI1; have L1 := hid (show ∀ p ∈ gs1, w0.heap.size ≤ p.1 ∧ p.1 < w1.heap.size from fun p hp => by have := hk1.lt hp; rw [HZ2.out] at this; exact this)
    have hl1 : gs1.length = N := by rw [hk1.len]; simp [HN.out]
    have HL1 := hid hl1
    clear hR hro hok h4 hk1 hv1 hI1 O2 hl1
    go_wp2_with fail
    refine PT.mono ?_
    rintro e w3 ⟨b3, _, p3⟩
    obtain ⟨L3, cL3, gs3, rfl, o3⟩ := p3 HR.out
    clear p3 PT v0 v1 v2 r0 r1 r2 f2
    rw [Int.toNat_natCast, Int.toNat_natCast] at o3
    have hrow3 := (b3.block _ (heap_in HS.out)).trans HS.out
    have b03 := B2.out.trans (b3.mono B2.out.size)
    have g3 := G2.out.below b3
    have PT := Put_any w3 (E : Int) (Q : Int) A1 N c1 ims HN.out g3
    obtain ⟨q0, q1, q2⟩ := cells3 hrow3
    have HRW3 := hid hrow3; have B03 := hid b03; have G3 := hid g3; have O3 := hid o3; have HK3 := hid (HK1.out.below b3); have HB3 := hid b3.size; have L3R := hid (show ∀ p ∈ gs3, w1.heap.size ≤ p.1 ∧ p.1 < w3.heap.size from fun p hp => by have := o3.blk.lt hp; rw [HZ2.out] at this; exact this)
    clear hrow3 b03 g3 o3 b3
    go_wp2_with fail
    refine PT.mono ?_
    rintro e w4 ⟨b4, _, p4⟩
    obtain ⟨L4, cL4, gs4, rfl, o4⟩ := p4 HR.out
    clear p4 PT q0 q1 q2
    rw [Int.toNat_natCast, Int.toNat_natCast] at o4
    have o34 := O3.out.below b4
    have hpl : (putB E Q ims).length = N + 1 := by simp [putB, HN.out]
    have cap3 := own_cap o34.row
    rw [hpl] at cap3
    have GT := GetPut w4 L3 cL3 N E Q ims HN.out HR.out ⟨cap3.1, by have := cap3.2; simp only [maxLen] at this; omega⟩ o34.rd
    have HRW4 := hid ((b4.block _ (heap_in HRW3.out)).trans HRW3.out); have B04 := hid (B03.out.trans (b4.mono B03.out.size)); have G4 := hid (G3.out.below b4); have O34 := hid o34; have O4 := hid o4; have HK4 := hid (HK3.out.below b4); have HPL := hid hpl; have CAP := hid cap3; have HB4 := hid b4.size; have L4R := hid (show ∀ p ∈ gs4, w3.heap.size ≤ p.1 ∧ p.1 < w4.heap.size from fun p hp => o4.blk.lt hp)
    clear o34 o4 b4 hpl cap3
    go_wp2_with fail
    refine GT.mono ?_
    rintro e w5 ⟨b5, A5, c5, gs5, rfl, o5⟩
    clear GT
    have ba5 : Below w5.heap.size w5 (w5.alloc (.cells #[.int .i64 (E : Int), .int .i64 (Q : Int), .slice A5 N c5] 28)) := (Below.refl _ _).alloc (Nat.le_refl _) _
    have hG1 := heap_alloc_new w5 (.cells #[.int .i64 (E : Int), .int .i64 (Q : Int), .slice A5 N c5] 28)
    have b45 := b5.trans (ba5.mono b5.size)
    obtain ⟨w6, hw6⟩ : ∃ w6, w6 = w5.alloc (.cells #[.int .i64 (E : Int), .int .i64 (Q : Int), .slice A5 N c5] 28) := ⟨_, rfl⟩
    have o56 : OwIm w4.heap.size w6 A5 c5 (ims.map (·.1)) gs5 (ims.map (·.2)) := by rw [hw6]; exact o5.below ba5
    have l5 : ∀ p ∈ gs5, w4.heap.size ≤ p.1 ∧ p.1 < w6.heap.size := fun p hp => o56.blk.lt hp
    rw [← hw6] at hG1 b45
    have o36 := O34.out.below b45
    have GT := GetPut w6 L3 cL3 N E Q ims HN.out HR.out ⟨CAP.out.1, by have := CAP.out.2; simp only [maxLen] at this; omega⟩ o36.rd
    obtain ⟨g1, hg1⟩ : ∃ g1, g1 = w5.heap.size := ⟨_, rfl⟩
    rw [← hg1] at hG1
    have HRW6 := hid ((b45.block _ (heap_in HRW4.out)).trans HRW4.out); have B06 := hid (B04.out.trans (b45.mono B04.out.size)); have G6 := hid (G4.out.below b45); have O36 := hid o36; have O46 := hid (O4.out.below b45); have HK6 := hid (HK4.out.below b45); have HK56 := hid o56; have HB6 := hid b45.size
    have HG1 := hid hG1; have HGG1 := hid hg1; have HW6 := hid hw6; have L5 := hid l5
    rw [hw6] at GT
    clear hG1 hg1 hw6 b45 ba5 o56 o5 b5 o36 l5
    go_wp2_with fail
    refine GT.mono ?_
    rw [← HW6.out, ← HGG1.out]
    rintro e w7 ⟨b7, A7, c7, gs7, rfl, o7⟩
    clear GT
    have ba7 : Below w7.heap.size w7 (w7.alloc (.cells #[.int .i64 (E : Int), .int .i64 (Q : Int), .slice A7 N c7] 28)) := (Below.refl _ _).alloc (Nat.le_refl _) _
    have hG2 := heap_alloc_new w7 (.cells #[.int .i64 (E : Int), .int .i64 (Q : Int), .slice A7 N c7] 28)
    have b67 := b7.trans (ba7.mono b7.size)
    obtain ⟨w8, hw8⟩ : ∃ w8, w8 = w7.alloc (.cells #[.int .i64 (E : Int), .int .i64 (Q : Int), .slice A7 N c7] 28) := ⟨_, rfl⟩
    have o78 : OwIm w6.heap.size w8 A7 c7 (ims.map (·.1)) gs7 (ims.map (·.2)) := by rw [hw8]; exact o7.below ba7
    have l7 : ∀ p ∈ gs7, w6.heap.size ≤ p.1 ∧ p.1 < w8.heap.size := fun p hp => o78.blk.lt hp
    rw [← hw8] at hG2 b67
    have zip8 : (ims.map (·.1)).zip (ims.map (·.2)) = ims := by simp [List.zip_map']
    have r58 := (HK56.out.below b67).rd
    have r78 := o78.rd
    rw [zip8] at r58 r78
    have SG := SameGroup_any w8 (E : Int) (Q : Int) (E : Int) (Q : Int) A5 A7 c5 c7 N N ims ims HN.out HN.out (by have := HN.out; omega) r58 r78
    rw [show decide ((E : Int) = (E : Int) ∧ (Q : Int) = (Q : Int) ∧ ims = ims) = true from decide_eq_true ⟨rfl, rfl, rfl⟩] at SG
    obtain ⟨g2, hg2⟩ : ∃ g2, g2 = w7.heap.size := ⟨_, rfl⟩
    rw [← hg2] at hG2
    have hG18 := (b67.block _ (heap_in HG1.out)).trans HG1.out
    obtain ⟨x0, x1, x2⟩ := cells3 hG18
    obtain ⟨y0, y1, y2⟩ := cells3 hG2
    have HRW8 := hid ((b67.block _ (heap_in HRW6.out)).trans HRW6.out); have B08 := hid (B06.out.trans (b67.mono B06.out.size)); have G8 := hid (G6.out.below b67); have O38 := hid (O36.out.below b67); have O48 := hid (O46.out.below b67); have HK8 := hid (HK6.out.below b67); have HK58 := hid (HK56.out.below b67); have HK78 := hid o78; have HB8 := hid b67.size
    have HG2 := hid hG2; have HGG2 := hid hg2; have HW8 := hid hw8; have HG18 := hid hG18; have L7 := hid l7; have R58 := hid r58
    rw [hw8] at SG x0 x1 x2 y0 y1 y2
    rw [hg2] at y0 y1 y2
    clear hG2 hg2 hw8 b67 ba7 o78 o7 b7 hG18 zip8 r58 r78 l7
    go_wp2_with fail
    refine SG.mono ?_
    rw [← HW8.out]
    (try rw [← HGG2.out])
    rintro e w9 ⟨rfl, b9⟩
    clear SG x0 x1 x2 y0 y1 y2
    obtain ⟨x0, x1, x2⟩ := cells3 ((b9.block _ (heap_in HG18.out)).trans HG18.out)
    obtain ⟨q0, q1, q2⟩ := cells3 ((b9.block _ (heap_in HRW8.out)).trans HRW8.out)
    have SG := SameGroup_any w9 (E : Int) (Q : Int) (E : Int) (Q : Int) A5 A1 c5 c1 N N ims ims HN.out HN.out (by have := HN.out; omega) (R58.out.below b9) (G8.out.below b9)
    rw [show decide ((E : Int) = (E : Int) ∧ (Q : Int) = (Q : Int) ∧ ims = ims) = true from decide_eq_true ⟨rfl, rfl, rfl⟩] at SG
    have B9 := hid b9
    clear b9
    go_wp2_with fail
    refine SG.mono ?_
    rintro e w10 ⟨rfl, b10⟩
    clear SG x0 x1 x2 q0 q1 q2
    have b810 := B9.out.trans (b10.mono B9.out.size)
    have HRW := hid ((b810.block _ (heap_in HRW8.out)).trans HRW8.out); have BB := hid (B08.out.trans (b810.mono B08.out.size))
    have I1 := hid (HK8.out.below b810); have I5 := hid (HK58.out.below b810); have I7 := hid (HK78.out.below b810); have O3' := hid (O38.out.below b810); have O4' := hid (O48.out.below b810)
    have HX1 := hid ((b810.block _ (heap_in HG18.out)).trans HG18.out); have HX2 := hid ((b810.block _ (heap_in HG2.out)).trans HG2.out)
    have HN10 := hid b810.size
    clear b810 b10 B9 HG18 HG2 HRW8 HW8 HGG2 B08 G8 O38 O48 HK8 HK58 HK78 R58 HRW6 B06 G6 O36 O46 HK6 HK56 HG1 HGG1 HW6 HRW4 B04 G4 O34 O4 HK4 HRW3 B03 G3 O3 HK3 HS HK1 B2 G2 R2 HW0
    have rl := vals_rd (by have := O3'.out.row; rw [HPL.out] at this; exact this)
    have hvl : (vals gs3).length = N + 1 := by rw [vals_length, O3'.out.blk.len, HPL.out]
    have ON := World.ownsRow_nil w10 w10.heap.size 31 1
    have RL := hid rl; have HVL := hid hvl
    clear rl hvl
    go_wp2_with (first
      | (with_reducible refine app_own rfl (.tmp 56) (.tmp 57) 22 31 (.slice none 0 0) 1 24 rfl Try.underlying22 info_L rfl (by decide) (by decide) w10.heap.size (.slice none 0 0) 0 [] rfl ON (some ⟨L3, 0, none⟩) (N + 1) cL3 (vals gs3) rfl (by rw [HVL.out]; omega) RL.out (vals_one gs3) (by omega) w10 (Below.refl _ _) (Nat.le_refl _) ?_
         intro A11 c11 w11 h11 b11 h11c h11d
         clear h11c h11d ON
         rw [Nat.zero_add] at h11
         have RLb := hid (vals_rd (w := w11) (base := w3.heap.size) (L := L4) (n := N + 1) (c := cL4) (gs := gs4) (by have := (O4'.out.below (b11.mono (Nat.le_refl _))).row; rw [HPL.out] at this; exact this))
         have HVLb := hid (show (vals gs4).length = N + 1 by rw [vals_length, O4'.out.blk.len, HPL.out])
         have hs11 := b11.size)
      | (with_reducible refine app_own rfl (.tmp 59) (.tmp 60) 22 31 (.slice none 0 0) 1 24 rfl Try.underlying22 info_L rfl (by decide) (by decide) w10.heap.size (.slice A11 (N + 1) c11) (N + 1) ([] ++ vals gs3) rfl h11 (some ⟨L4, 0, none⟩) (N + 1) cL4 (vals gs4) rfl (by rw [HVLb.out]; omega) RLb.out (vals_one gs4) (by omega) w10 b11 hs11 ?_
         intro A12 c12 w12 h12 b12 h12c h12d))
    clear h12c h12d h11 b11 hs11
    generalize hM : N + 1 + (N + 1) = M at h12 ⊢
    have hv : [] ++ vals gs3 ++ vals gs4 = vals (gs3 ++ gs4 ++ inter (gs1.take 0) (gs5.take 0) (gs7.take 0)) := by simp [vals, inter]
    rw [hv] at h12
    have HM := hid hM
    have hM2 : M ≤ 70 := by omega
    clear hM hv
    go_loopw [11, 12] (fun vo i wr => ∃ k oa oc, k ≤ N ∧ i = .int .i64 ((k : Nat) : Int) ∧ vo = .slice oa (M + 3 * k) oc ∧ wr.ownsRow w10.heap.size 31 1 (.slice oa (M + 3 * k) oc) (M + 3 * k) (vals (gs3 ++ gs4 ++ inter (gs1.take k) (gs5.take k) (gs7.take k))) ∧ Below w10.heap.size w10 wr) (fun _ i _ => N - (intOf i).toNat)
    case atStart => exact ⟨0, A12, c12, Nat.zero_le _, rfl, rfl, h12, b12⟩
    case round => as_aux_lemma =>
      obtain ⟨k, oa, oc, hk, rfl, rfl, q1, q3⟩ := hrel
      obtain ⟨z0, z1, z2⟩ := cells3 ((q3.block _ (heap_in HRW.out)).trans HRW.out)
      by_cases hlt : k < N
      · obtain ⟨p1, hp1⟩ : ∃ x, gs1[k]? = some x := ⟨gs1[k]'(by have := HL1.out; omega), List.getElem?_eq_getElem _⟩
        obtain ⟨p4, hp4⟩ : ∃ x, gs5[k]? = some x := ⟨gs5[k]'(by have e1 := I5.out.len; rw [List.length_map] at e1; have := HN.out; omega), List.getElem?_eq_getElem _⟩
        obtain ⟨p6, hp6⟩ : ∃ x, gs7[k]? = some x := ⟨gs7[k]'(by have e1 := I7.out.len; rw [List.length_map] at e1; have := HN.out; omega), List.getElem?_eq_getElem _⟩
        obtain ⟨b1, o1, hA1, m1⟩ := I1.out.at_ k p1 hp1
        obtain ⟨b4, o4, hA4, m4⟩ := I5.out.at_ k p4 hp4
        obtain ⟨b6, o6, hA6, m6⟩ := I7.out.at_ k p6 hp6
        have T1 := hid (inter_take gs1 gs5 gs7 k p1 p4 p6 hp1 hp4 hp6)
        have hbd : Below w10.heap.size w10 wr.drew := below_drw q3
        have x1 := ((hbd.block _ (heap_in HX1.out)).trans HX1.out)
        have x2 := ((hbd.block _ (heap_in HX2.out)).trans HX2.out)
        subst hA1 hA4 hA6
        have sX : wr.drew.cell? ⟨w.heap.size, 2, none⟩ = some (.slice (some ⟨b1, o1, none⟩) N c1) ∧ wr.drew.cell? ⟨b1, o1 + k * 2 + 1, none⟩ = some (.slice (some ⟨p1.1, 0, none⟩) 4096 p1.2) ∧ wr.drew.cell? ⟨g1, 2, none⟩ = some (.slice (some ⟨b4, o4, none⟩) N c5) ∧ wr.drew.cell? ⟨b4, o4 + k * 2 + 1, none⟩ = some (.slice (some ⟨p4.1, 0, none⟩) 4096 p4.2) ∧ wr.drew.cell? ⟨g2, 2, none⟩ = some (.slice (some ⟨b6, o6, none⟩) N c7) ∧ wr.drew.cell? ⟨b6, o6 + k * 2 + 1, none⟩ = some (.slice (some ⟨p6.1, 0, none⟩) 4096 p6.2) :=
          ⟨(cells3 ((hbd.block _ (heap_in HRW.out)).trans HRW.out)).2.2, cell_below hbd m1, (cells3 x1).2.2, cell_below hbd m4, (cells3 x2).2.2, cell_below hbd m6⟩
        have q1d : wr.drew.ownsRow w10.heap.size 31 1 (.slice oa (M + 3 * k) oc) (M + 3 * k) (vals (gs3 ++ gs4 ++ inter (gs1.take k) (gs5.take k) (gs7.take k))) := q1
        have q2d := hbd
        have y1 := World.block_lt_of_cell? w10 _ m1
        have y4 := World.block_lt_of_cell? w10 _ m4
        have y6 := World.block_lt_of_cell? w10 _ m6
        have yg1 := heap_in HX1.out
        have yg2 := heap_in HX2.out
        have yg := heap_in HRW.out
        have h8s : ∀ {W W' : World}, Kpt (fun b => blkOf oa b) W W' → (W.cell? ⟨w.heap.size, 2, none⟩ = some (.slice (some ⟨b1, o1, none⟩) N c1) ∧ W.cell? ⟨b1, o1 + k * 2 + 1, none⟩ = some (.slice (some ⟨p1.1, 0, none⟩) 4096 p1.2) ∧ W.cell? ⟨g1, 2, none⟩ = some (.slice (some ⟨b4, o4, none⟩) N c5) ∧ W.cell? ⟨b4, o4 + k * 2 + 1, none⟩ = some (.slice (some ⟨p4.1, 0, none⟩) 4096 p4.2) ∧ W.cell? ⟨g2, 2, none⟩ = some (.slice (some ⟨b6, o6, none⟩) N c7) ∧ W.cell? ⟨b6, o6 + k * 2 + 1, none⟩ = some (.slice (some ⟨p6.1, 0, none⟩) 4096 p6.2)) →
            (W'.cell? ⟨w.heap.size, 2, none⟩ = some (.slice (some ⟨b1, o1, none⟩) N c1) ∧ W'.cell? ⟨b1, o1 + k * 2 + 1, none⟩ = some (.slice (some ⟨p1.1, 0, none⟩) 4096 p1.2) ∧ W'.cell? ⟨g1, 2, none⟩ = some (.slice (some ⟨b4, o4, none⟩) N c5) ∧ W'.cell? ⟨b4, o4 + k * 2 + 1, none⟩ = some (.slice (some ⟨p4.1, 0, none⟩) 4096 p4.2) ∧ W'.cell? ⟨g2, 2, none⟩ = some (.slice (some ⟨b6, o6, none⟩) N c7) ∧ W'.cell? ⟨b6, o6 + k * 2 + 1, none⟩ = some (.slice (some ⟨p6.1, 0, none⟩) 4096 p6.2)) := fun K ⟨a1, a2, a3, a4, a5, a6⟩ =>
          ⟨K.cell a1 (fun h => by have := own_base q1 _ (own_img q1 h); omega), K.cell a2 (fun h => by have := own_base q1 _ (own_img q1 h); simp only at y1; omega), K.cell a3 (fun h => by have := own_base q1 _ (own_img q1 h); omega), K.cell a4 (fun h => by have := own_base q1 _ (own_img q1 h); simp only at y4; omega), K.cell a5 (fun h => by have := own_base q1 _ (own_img q1 h); omega), K.cell a6 (fun h => by have := own_base q1 _ (own_img q1 h); simp only at y6; omega)⟩
        clear y1 y4 y6 yg1 yg2 yg
        clear q1 q3 hp1 hp4 hp6 m1 m4 m6 x1 x2 hbd
        go_wp2_with fail
        refine wp_region_held_drew (S := fun W1 => W1.cell? ⟨w.heap.size, 2, none⟩ = some (.slice (some ⟨b1, o1, none⟩) N c1) ∧ W1.cell? ⟨b1, o1 + k * 2 + 1, none⟩ = some (.slice (some ⟨p1.1, 0, none⟩) 4096 p1.2) ∧ W1.cell? ⟨g1, 2, none⟩ = some (.slice (some ⟨b4, o4, none⟩) N c5) ∧ W1.cell? ⟨b4, o4 + k * 2 + 1, none⟩ = some (.slice (some ⟨p4.1, 0, none⟩) 4096 p4.2) ∧ W1.cell? ⟨g2, 2, none⟩ = some (.slice (some ⟨b6, o6, none⟩) N c7) ∧ W1.cell? ⟨b6, o6 + k * 2 + 1, none⟩ = some (.slice (some ⟨p6.1, 0, none⟩) 4096 p6.2)) (by kernel_rfl) (by exact sX) (fun hHeld => ?_)
        refine wpAnyH_take (i := 0) (oi := ?o0z1) (v := ?v0z1) ?hi0z1 (by kernel_rfl) (by kernel_rfl) ?hr0z1 ?hQ0z1 ?hy0z1 hHeld ?r0z1
        case hi0z1 => (simp only [List.getElem?_toArray, List.getElem?_cons_zero, List.getElem?_cons_succ]; rfl)
        case hr0z1 => kernel_rfl
        case hQ0z1 => exact fun _ _ _ h => h
        case hy0z1 => (refine Or.inl ⟨by rfl, ?_⟩; intro w hSw; (try dsimp only at hSw); go_simp; try with_reducible rfl)
        try simp only [Act.put, List.setIfInBounds_toArray, List.set_cons_zero, List.set_cons_succ]
        refine wpAnyH_take (i := 1) (oi := ?o1z1) (v := ?v1z1) ?hi1z1 (by kernel_rfl) (by kernel_rfl) ?hr1z1 ?hQ1z1 ?hy1z1 hHeld ?r1z1
        case hi1z1 => (simp only [List.getElem?_toArray, List.getElem?_cons_zero, List.getElem?_cons_succ]; rfl)
        case hr1z1 => kernel_rfl
        case hQ1z1 => exact fun _ _ _ h => h
        case hy1z1 => (refine Or.inl ⟨by rfl, ?_⟩; intro w hSw; (try dsimp only at hSw); go_simp; try with_reducible rfl)
        try simp only [Act.put, List.setIfInBounds_toArray, List.set_cons_zero, List.set_cons_succ]
        refine wpAnyH_take (i := 2) (oi := ?o2z1) (v := ?v2z1) ?hi2z1 (by kernel_rfl) (by kernel_rfl) ?hr2z1 ?hQ2z1 ?hy2z1 hHeld ?r2z1
        case hi2z1 => (simp only [List.getElem?_toArray, List.getElem?_cons_zero, List.getElem?_cons_succ]; rfl)
        case hr2z1 => kernel_rfl
        case hQ2z1 => exact fun _ _ _ h => h
        case hy2z1 => (refine Or.inl ⟨by rfl, ?_⟩; intro w hSw; (try dsimp only at hSw); go_simp; try with_reducible rfl)
        try simp only [Act.put, List.setIfInBounds_toArray, List.set_cons_zero, List.set_cons_succ]
        refine wpAnyH_take (i := 3) (oi := ?o3z1) (v := ?v3z1) ?hi3z1 (by kernel_rfl) (by kernel_rfl) ?hr3z1 ?hQ3z1 ?hy3z1 hHeld ?r3z1
        case hi3z1 => (simp only [List.getElem?_toArray, List.getElem?_cons_zero, List.getElem?_cons_succ]; rfl)
        case hr3z1 => kernel_rfl
        case hQ3z1 => exact fun _ _ _ h => h
        case hy3z1 => (refine Or.inl ⟨by rfl, ?_⟩; intro w hSw; (try dsimp only at hSw); go_simp; try with_reducible rfl)
        try simp only [Act.put, List.setIfInBounds_toArray, List.set_cons_zero, List.set_cons_succ]
        refine wpAnyH_take (i := 4) (oi := ?o4z1) (v := ?v4z1) ?hi4z1 (by kernel_rfl) (by kernel_rfl) ?hr4z1 ?hQ4z1 ?hy4z1 hHeld ?r4z1
        case hi4z1 => (simp only [List.getElem?_toArray, List.getElem?_cons_zero, List.getElem?_cons_succ]; rfl)
        case hr4z1 => kernel_rfl
        case hQ4z1 => exact fun _ _ _ h => h
        case hy4z1 => (refine Or.inl ⟨by rfl, ?_⟩; intro w hSw; (try dsimp only at hSw); go_simp; try with_reducible rfl)
        try simp only [Act.put, List.setIfInBounds_toArray, List.set_cons_zero, List.set_cons_succ]
        refine wpAnyH_take (i := 5) (oi := ?o5z1) (v := ?v5z1) ?hi5z1 (by kernel_rfl) (by kernel_rfl) ?hr5z1 ?hQ5z1 ?hy5z1 hHeld ?r5z1
        case hi5z1 => (simp only [List.getElem?_toArray, List.getElem?_cons_zero, List.getElem?_cons_succ]; rfl)
        case hr5z1 => kernel_rfl
        case hQ5z1 => exact fun _ _ _ h => h
        case hy5z1 => (refine Or.inl ⟨by rfl, ?_⟩; intro w hSw; (try dsimp only at hSw); go_simp; try with_reducible rfl)
        try simp only [Act.put, List.setIfInBounds_toArray, List.set_cons_zero, List.set_cons_succ]
        refine wpAnyH_take (i := 6) (oi := ?o6z1) (v := ?v6z1) ?hi6z1 (by kernel_rfl) (by kernel_rfl) ?hr6z1 ?hQ6z1 ?hy6z1 hHeld ?r6z1
        case hi6z1 => (simp only [List.getElem?_toArray, List.getElem?_cons_zero, List.getElem?_cons_succ]; rfl)
        case hr6z1 => kernel_rfl
        case hQ6z1 => exact fun _ _ _ h => h
        case hy6z1 => (refine Or.inl ⟨by rfl, ?_⟩; intro w hSw; (try dsimp only at hSw); go_simp; try with_reducible rfl)
        try simp only [Act.put, List.setIfInBounds_toArray, List.set_cons_zero, List.set_cons_succ]
        refine wpAnyH_take (i := 7) (oi := ?o7z1) (v := ?v7z1) ?hi7z1 (by kernel_rfl) (by kernel_rfl) ?hr7z1 ?hQ7z1 ?hy7z1 hHeld ?r7z1
        case hi7z1 => (simp only [List.getElem?_toArray, List.getElem?_cons_zero, List.getElem?_cons_succ]; rfl)
        case hr7z1 => kernel_rfl
        case hQ7z1 => exact fun _ _ _ h => h
        case hy7z1 => (refine Or.inl ⟨by rfl, ?_⟩; intro w hSw; (try dsimp only at hSw); go_simp; try with_reducible rfl)
        try simp only [Act.put, List.setIfInBounds_toArray, List.set_cons_zero, List.set_cons_succ]
        refine wpAnyH_take (i := 8) (oi := ?o8z1) (v := ?v8z1) ?hi8z1 (by kernel_rfl) (by kernel_rfl) ?hr8z1 ?hQ8z1 ?hy8z1 hHeld ?r8z1
        case hi8z1 => (simp only [List.getElem?_toArray, List.getElem?_cons_zero, List.getElem?_cons_succ]; rfl)
        case hr8z1 => kernel_rfl
        case hQ8z1 => exact fun _ _ _ h => h
        case hy8z1 => (refine Or.inl ⟨by rfl, ?_⟩; intro w hSw; (try dsimp only at hSw); go_simp; try with_reducible rfl)
        try simp only [Act.put, List.setIfInBounds_toArray, List.set_cons_zero, List.set_cons_succ]
        refine wpAnyH_take (i := 9) (oi := ?o9z1) (v := ?v9z1) ?hi9z1 (by kernel_rfl) (by kernel_rfl) ?hr9z1 ?hQ9z1 ?hy9z1 hHeld ?r9z1
        case hi9z1 => (simp only [List.getElem?_toArray, List.getElem?_cons_zero, List.getElem?_cons_succ]; rfl)
        case hr9z1 => kernel_rfl
        case hQ9z1 => exact fun _ _ _ h => h
        case hy9z1 => (refine Or.inl ⟨by rfl, ?_⟩; intro w hSw; (try dsimp only at hSw); go_simp; try with_reducible rfl)
        try simp only [Act.put, List.setIfInBounds_toArray, List.set_cons_zero, List.set_cons_succ]
        refine wpAnyH_take (i := 10) (oi := ?o10z1) (v := ?v10z1) ?hi10z1 (by kernel_rfl) (by kernel_rfl) ?hr10z1 ?hQ10z1 ?hy10z1 hHeld ?r10z1
        case hi10z1 => (simp only [List.getElem?_toArray, List.getElem?_cons_zero, List.getElem?_cons_succ]; rfl)
        case hr10z1 => kernel_rfl
        case hQ10z1 => exact fun _ _ _ h => h
        case hy10z1 => (refine Or.inl ⟨by rfl, ?_⟩; intro w hSw; (try dsimp only at hSw); go_simp; try with_reducible rfl)
        try simp only [Act.put, List.setIfInBounds_toArray, List.set_cons_zero, List.set_cons_succ]
        refine wpAnyH_take (i := 11) (oi := ?o11z1) (v := ?v11z1) ?hi11z1 (by kernel_rfl) (by kernel_rfl) ?hr11z1 ?hQ11z1 ?hy11z1 hHeld ?r11z1
        case hi11z1 => (simp only [List.getElem?_toArray, List.getElem?_cons_zero, List.getElem?_cons_succ]; rfl)
        case hr11z1 => kernel_rfl
        case hQ11z1 => exact fun _ _ _ h => h
        case hy11z1 => (refine Or.inl ⟨by rfl, ?_⟩; intro w hSw; (try dsimp only at hSw); go_simp; try with_reducible rfl)
        try simp only [Act.put, List.setIfInBounds_toArray, List.set_cons_zero, List.set_cons_succ]
        refine wpAnyH_take (i := 12) (oi := ?o12z1) (v := ?v12z1) ?hi12z1 (by kernel_rfl) (by kernel_rfl) ?hr12z1 ?hQ12z1 ?hy12z1 hHeld ?r12z1
        case hi12z1 => (simp only [List.getElem?_toArray, List.getElem?_cons_zero, List.getElem?_cons_succ]; rfl)
        case hr12z1 => kernel_rfl
        case hQ12z1 => exact fun _ _ _ h => h
        case hy12z1 => (refine Or.inl ⟨by rfl, ?_⟩; intro w hSw; (try dsimp only at hSw); go_simp; try with_reducible rfl)
        try simp only [Act.put, List.setIfInBounds_toArray, List.set_cons_zero, List.set_cons_succ]
        refine wpAnyH_take (i := 13) (oi := ?o13z1) (v := ?v13z1) ?hi13z1 (by kernel_rfl) (by kernel_rfl) ?hr13z1 ?hQ13z1 ?hy13z1 hHeld ?r13z1
        case hi13z1 => (simp only [List.getElem?_toArray, List.getElem?_cons_zero, List.getElem?_cons_succ]; rfl)
        case hr13z1 => kernel_rfl
        case hQ13z1 => exact fun _ _ _ h => h
        case hy13z1 => (refine Or.inl ⟨by rfl, ?_⟩; intro w hSw; (try dsimp only at hSw); go_simp; try with_reducible rfl)
        try simp only [Act.put, List.setIfInBounds_toArray, List.set_cons_zero, List.set_cons_succ]
        refine wpAnyH_take (i := 14) (oi := ?o14z1) (v := ?v14z1) ?hi14z1 (by kernel_rfl) (by kernel_rfl) ?hr14z1 ?hQ14z1 ?hy14z1 hHeld ?r14z1
        case hi14z1 => (simp only [List.getElem?_toArray, List.getElem?_cons_zero, List.getElem?_cons_succ]; rfl)
        case hr14z1 => kernel_rfl
        case hQ14z1 => exact fun _ _ _ h => h
        case hy14z1 => (refine Or.inl ⟨by rfl, ?_⟩; intro w hSw; (try dsimp only at hSw); go_simp; try with_reducible rfl)
        try simp only [Act.put, List.setIfInBounds_toArray, List.set_cons_zero, List.set_cons_succ]
        refine wpAnyH_take (i := 15) (oi := ?o15z1) (v := ?v15z1) ?hi15z1 (by kernel_rfl) (by kernel_rfl) ?hr15z1 ?hQ15z1 ?hy15z1 hHeld ?r15z1
        case hi15z1 => (simp only [List.getElem?_toArray, List.getElem?_cons_zero, List.getElem?_cons_succ]; rfl)
        case hr15z1 => kernel_rfl
        case hQ15z1 => exact fun _ _ _ h => h
        case hy15z1 => (refine Or.inl ⟨by rfl, ?_⟩; intro w hSw; (try dsimp only at hSw); go_simp; try with_reducible rfl)
        try simp only [Act.put, List.setIfInBounds_toArray, List.set_cons_zero, List.set_cons_succ]
        refine wpAnyH_take (i := 16) (oi := ?o16z1) (v := ?v16z1) ?hi16z1 (by kernel_rfl) (by kernel_rfl) ?hr16z1 ?hQ16z1 ?hy16z1 hHeld ?r16z1
        case hi16z1 => (simp only [List.getElem?_toArray, List.getElem?_cons_zero, List.getElem?_cons_succ]; rfl)
        case hr16z1 => kernel_rfl
        case hQ16z1 => exact fun _ _ _ h => h
        case hy16z1 => (refine Or.inl ⟨by rfl, ?_⟩; intro w hSw; (try dsimp only at hSw); go_simp; try with_reducible rfl)
        try simp only [Act.put, List.setIfInBounds_toArray, List.set_cons_zero, List.set_cons_succ]
        refine wpAnyH_take (i := 17) (oi := ?o17z1) (v := ?v17z1) ?hi17z1 (by kernel_rfl) (by kernel_rfl) ?hr17z1 ?hQ17z1 ?hy17z1 hHeld ?r17z1
        case hi17z1 => (simp only [List.getElem?_toArray, List.getElem?_cons_zero, List.getElem?_cons_succ]; rfl)
        case hr17z1 => kernel_rfl
        case hQ17z1 => exact fun _ _ _ h => h
        case hy17z1 => (refine Or.inl ⟨by rfl, ?_⟩; intro w hSw; (try dsimp only at hSw); go_simp; try with_reducible rfl)
        try simp only [Act.put, List.setIfInBounds_toArray, List.set_cons_zero, List.set_cons_succ]
        refine wpAnyH_take (i := 18) (oi := ?o18z1) (v := ?v18z1) ?hi18z1 (by kernel_rfl) (by kernel_rfl) ?hr18z1 ?hQ18z1 ?hy18z1 hHeld ?r18z1
        case hi18z1 => (simp only [List.getElem?_toArray, List.getElem?_cons_zero, List.getElem?_cons_succ]; rfl)
        case hr18z1 => kernel_rfl
        case hQ18z1 => exact fun _ _ _ h => h
        case hy18z1 => (refine Or.inl ⟨by rfl, ?_⟩; intro w hSw; (try dsimp only at hSw); go_simp; try with_reducible rfl)
        try simp only [Act.put, List.setIfInBounds_toArray, List.set_cons_zero, List.set_cons_succ]
        refine wpAnyH_ready (rs := [19]) (by kernel_rfl) (by simp) (AllReadyH.cons (o := ?o19z1) ?hi19z1 (fun K hK => ?r19z1) AllReadyH.nil)
        case hi19z1 => (simp only [List.getElem?_toArray, List.getElem?_cons_zero, List.getElem?_cons_succ]; rfl)
        go_simp
        have ba : Below wr.drew.heap.size wr.drew (wr.drew.alloc (.cells #[.slice (some ⟨p1.1, 0, none⟩) 4096 p1.2, .slice (some ⟨p4.1, 0, none⟩) 4096 p4.2, .slice (some ⟨p6.1, 0, none⟩) 4096 p6.2] 31)) := (Below.refl _ _).alloc (Nat.le_refl _) _
        have s4 := And.intro (cell_below ba sX.1) (And.intro (cell_below ba sX.2.1) (And.intro (cell_below ba sX.2.2.1) (And.intro (cell_below ba sX.2.2.2.1) (And.intro (cell_below ba sX.2.2.2.2.1) (cell_below ba sX.2.2.2.2.2)))))
        have Q15 := hid (own_below q1d ba)
        have Q25 := hid (q2d.trans (ba.mono q2d.size))
        have R5 : RdV (wr.drew.alloc (.cells #[.slice (some ⟨p1.1, 0, none⟩) 4096 p1.2, .slice (some ⟨p4.1, 0, none⟩) 4096 p4.2, .slice (some ⟨p6.1, 0, none⟩) 4096 p6.2] 31)) (some ⟨wr.heap.size, 0, none⟩) [.slice (some ⟨p1.1, 0, none⟩) 4096 p1.2, .slice (some ⟨p4.1, 0, none⟩) 4096 p4.2, .slice (some ⟨p6.1, 0, none⟩) 4096 p6.2] := RdV.new wr.drew #[.slice (some ⟨p1.1, 0, none⟩) 4096 p1.2, .slice (some ⟨p4.1, 0, none⟩) 4096 p4.2, .slice (some ⟨p6.1, 0, none⟩) 4096 p6.2] 31
        refine hK.out _ _ (by exact s4) (fun hHeld => ?_)
        clear hK K
        try simp only [Act.put, List.setIfInBounds_toArray, List.set_cons_zero, List.set_cons_succ]
        refine wpAnyH_ready (rs := [20]) (by kernel_rfl) (by simp) (AllReadyH.cons (o := ?o20z1) ?hi20z1 (fun K hK => ?r20z1) AllReadyH.nil)
        case hi20z1 => (simp only [List.getElem?_toArray, List.getElem?_cons_zero, List.getElem?_cons_succ]; rfl)
        refine step_own rfl (.tmp 69) (.tmp 88) 22 31 (.slice none 0 0) 1 24 rfl Try.underlying22 info_L rfl (by decide) (by decide) w10.heap.size oa oc (M + 3 * k) (vals (gs3 ++ gs4 ++ inter (gs1.take k) (gs5.take k) (gs7.take k))) rfl Q15.out (some ⟨wr.heap.size, 0, none⟩) 3 3 [.slice (some ⟨p1.1, 0, none⟩) 4096 p1.2, .slice (some ⟨p4.1, 0, none⟩) 4096 p4.2, .slice (some ⟨p6.1, 0, none⟩) 4096 p6.2] rfl rfl R5 (by simp [Value.oneCell']) (by omega) Q25.out.size ?_
        intro A1' c1' w8' h8 K8 hA8
        have H8 := hid h8
        have H8B := hid (belowK Q25.out K8 (fun b hb => own_base Q15.out b (own_img Q15.out hb)) Q25.out.size)
        have s8 := h8s K8 s4
        clear h8 K8
        refine hK.out _ _ (by exact s8) (fun hHeld => ?_)
        clear hK K
        try simp only [Act.put, List.setIfInBounds_toArray, List.set_cons_zero, List.set_cons_succ]
        refine wpAnyH_take (i := 21) (oi := ?o21z1) (v := ?v21z1) ?hi21z1 (by kernel_rfl) (by kernel_rfl) ?hr21z1 ?hQ21z1 ?hy21z1 hHeld ?r21z1
        case hi21z1 => (simp only [List.getElem?_toArray, List.getElem?_cons_zero, List.getElem?_cons_succ]; rfl)
        case hr21z1 => kernel_rfl
        case hQ21z1 => exact fun _ _ _ h => h
        case hy21z1 => (refine Or.inl ⟨by rfl, ?_⟩; intro w hSw; (try dsimp only at hSw); go_simp; try with_reducible rfl)
        try simp only [Act.put, List.setIfInBounds_toArray, List.set_cons_zero, List.set_cons_succ]
        refine wpAnyH_done (by kernel_rfl) ?_ _
        go_wp2_with fail
        go_roundw
        case rel =>
          refine ⟨k + 1, A1', c1', by omega, by go_num, by rw [show M + 3 * (k + 1) = M + 3 * k + 3 by omega], ?_, H8B.out⟩
          have := H8.out
          rw [T1.out, ← List.append_assoc]
          simpa [vals, Nat.mul_add, Nat.add_assoc] using this
        case measure => simp [intOf]; omega
      · obtain rfl : k = N := by omega
        obtain ⟨L, c', e, _, _⟩ := own_slice1 q1 (by omega)
        simp only [Value.slice.injEq, true_and] at e
        obtain ⟨rfl, rfl⟩ := e
        have hl5 : gs1.length = gs5.length := by have e1 := I5.out.len; rw [List.length_map] at e1; have := HN.out; have := HL1.out; omega
        have hl7 : gs1.length = gs7.length := by have e1 := I7.out.len; rw [List.length_map] at e1; have := HN.out; have := HL1.out; omega
        have hl3 : gs3.length = k + 1 := by rw [O3'.out.blk.len, HPL.out]
        have hl4 : gs4.length = k + 1 := by rw [O4'.out.blk.len, HPL.out]
        rw [List.take_of_length_le (by rw [HL1.out]; exact Nat.le_refl _), List.take_of_length_le (by rw [← hl5, HL1.out]; exact Nat.le_refl _), List.take_of_length_le (by rw [← hl7, HL1.out]; exact Nat.le_refl _)] at q1
        have hlen : (gs3 ++ gs4 ++ inter gs1 gs5 gs7).length = M + 3 * k := by
          rw [List.length_append, List.length_append, inter_length _ _ _ hl5 hl7, hl3, hl4, HL1.out, ← HM.out]
        have hz1 := HB3.out
        have hz2 := HB4.out
        have hz3 := HB6.out
        have hz4 := HZ2.out
        have hz5 := HB8.out
        rw [hz4] at hz1
        have hnd := all_nodup I1.out.blk.dif O3'.out.blk.dif O4'.out.blk.dif I5.out.blk.dif I7.out.blk.dif L1.out L3R.out L4R.out L5.out L7.out ⟨hz1, hz2, hz3⟩ hl5 hl7
        have hge : ∀ p ∈ gs3 ++ gs4 ++ inter gs1 gs5 gs7, w0.heap.size ≤ p.1 := by
          intro p hp
          rcases List.mem_append.1 hp with hp | hp
          · rcases List.mem_append.1 hp with hp | hp
            · have := L3R.out p hp; omega
            · have := L4R.out p hp; omega
          · rcases inter_mem hl5 hl7 hp with hp | hp | hp
            · have := L1.out p hp; omega
            · have := L5.out p hp; omega
            · have := L7.out p hp; omega
        have hown : ∀ p ∈ gs3 ++ gs4 ++ inter gs1 gs5 gs7, ∃ l, OwnB w0.heap.size wr (some ⟨p.1, 0, none⟩) p.2 l ∧ l.length = 4096 := by
          intro p hp
          rcases List.mem_append.1 hp with hp | hp
          · rcases List.mem_append.1 hp with hp | hp
            · exact ((O3'.out.blk.mono (by omega)).below q3).get hp
            · exact ((O4'.out.blk.mono (by omega)).below q3).get hp
          · rcases inter_mem hl5 hl7 hp with hp | hp | hp
            · exact (I1.out.blk.below q3).get hp
            · exact ((I5.out.blk.mono (by omega)).below q3).get hp
            · exact ((I7.out.blk.mono (by omega)).below q3).get hp
        have AB := ApartBlk wr w0.heap.size w10.heap.size L (M + 3 * k) oc (gs3 ++ gs4 ++ inter gs1 gs5 gs7) hlen.symm (by omega) (by omega) q1 hown hnd (by have := q3.size; have := HN10.out; omega)
        have HG := hid hge
        have HBW := hid (BB.out.trans (q3.mono BB.out.size))
        clear q1 q3 hown hnd hge hlen hl3 hl4 hl5 hl7 hz1 hz2 hz3 hz4 hz5
        go_wp2_with fail
        refine AB.mono ?_
        rintro e w13 ⟨rfl, k13⟩
        clear AB
        have b13 := belowK HBW.out k13 (fun b ⟨p, hp, e⟩ => by have := HG.out p hp; omega) HBW.out.size
        have B13 := hid b13
        clear b13 k13
        go_wp2_with fail
        refine (awake06_any _).mono ?_
        rintro e w14 ⟨rfl, b14⟩
        have HF := hid (B13.out.trans (b14.mono B13.out.size))
        clear b14
        go_wp2
        go_ret
        exact ⟨rfl, HF.out⟩
end Go.Proofs.Ytknhfaplddgnlaa
