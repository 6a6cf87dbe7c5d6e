/- The walk of SuperNumbers. -/
import Derived.Test.YtjblpejekcbokaaLaw03j
import Derived.Test.YtjblpejekcbokaaLaw03k
namespace Go.Proofs.Ytjblpejekcbokaa
open Go.RowKit
set_option maxHeartbeats 16000000
set_option linter.unusedVariables false
set_option linter.unusedSimpArgs false

theorem kept3 {w w1 : World} {o p r : Obj} {g : Nat} (b : Below ((w.alloc o).alloc p).heap.size ((w.alloc o).alloc p) w1) (h : w.heap[g]? = some r) : w1.heap[g]? = some r :=
  kept2 b ((heap_alloc_old w o (heap_lt h)).trans h)
theorem keptN2 {w w1 : World} {o p : Obj} (b : Below ((w.alloc o).alloc p).heap.size ((w.alloc o).alloc p) w1) : w1.heap[w.heap.size]? = some o := kept2 b (heap_alloc_new w o)
set_option maxRecDepth 100000 in
theorem SuperNumbers_any (w : World) : Calls Try.prog 5 #[] w fun e w' => e = .returned (.bool true) ∧ Below w.heap.size w w' := by
  have hmk64 := fun W => run_mkB 64 64 64 rfl rfl (by decide) W
  have hmk63 := fun W => run_mkB 63 63 63 rfl rfl (by decide) W
  have hmk4k := fun W => run_mkB 4096 4096 4096 rfl rfl (by decide) W
  go_enter Try.func5, Try.ntmps5
  go_wp2_with fail
  refine (PutSuper_s0 _).mono ?_
  rintro e w1 ⟨A1, c1, rfl, ga, b1⟩
  have bw1 := (Below.refl w.heap.size w).trans (b1.mono (Below.refl w.heap.size w).size)
  clear b1
  have hb := ga.rd
  obtain ⟨g, rfl, _, hcs, _⟩ := ga.at_ (by intro e; have := supB_length s0; rw [e] at this; simp at this)
  rw [supB_length] at hcs
  have v15 := hcs 15 (by decide); have v23 := hcs 23 (by decide); have v31 := hcs 31 (by decide); have v39 := hcs 39 (by decide)
  rw [sb15] at v15; rw [sb23] at v23; rw [sb31] at v31; rw [sb39] at v39
  have hc1 : 4096 ≤ c1 := by have := ga.cap.1; rw [supB_length] at this; exact this
  have r8 := hb.take 8
  rw [sb8] at r8
  have kst : (convert 31 9 (.slice (some ⟨g, 0, none⟩) 8 c1)).run Try.prog w1 = .ok (.string ⟨#[76, 69, 68, 71, 69, 82, 48, 49]⟩) w1 := run_strB c1 r8
  clear hcs r8 ga
  go_wp2_with fail
  obtain ⟨v, hv⟩ : ∃ v, v = w1.alloc (.cells #[.int .i64 (63), .int .i64 (1), .int .i64 (1), .int .i64 (0), .int .i64 (513), .int .i64 (1), .int .i64 (1), .int .i64 (0), .int .i64 (64), .int .i64 (0), .int .i64 (1), .int .i64 (0), .int .i64 (64), .int .i64 (8388609), .int .i64 (1), .int .i64 (0), .int .i64 (64), .int .i64 (1), .int .i64 (0), .int .i64 (0), .int .i64 (64), .int .i64 (1), .int .i64 (549755813889), .int .i64 (0), .int .i64 (64), .int .i64 (1), .int .i64 (1), .int .i64 (512), .int .i64 (64), .int .i64 (1), .int .i64 (1), .int .i64 (-1)] 23) := ⟨_, rfl⟩
  have bv : Below w.heap.size w v := by rw [hv]; exact bw1.alloc bw1.size _
  have hr1 := hid (show v.heap[w1.heap.size]? = some (.cells #[.int .i64 (63), .int .i64 (1), .int .i64 (1), .int .i64 (0), .int .i64 (513), .int .i64 (1), .int .i64 (1), .int .i64 (0), .int .i64 (64), .int .i64 (0), .int .i64 (1), .int .i64 (0), .int .i64 (64), .int .i64 (8388609), .int .i64 (1), .int .i64 (0), .int .i64 (64), .int .i64 (1), .int .i64 (0), .int .i64 (0), .int .i64 (64), .int .i64 (1), .int .i64 (549755813889), .int .i64 (0), .int .i64 (64), .int .i64 (1), .int .i64 (1), .int .i64 (512), .int .i64 (64), .int .i64 (1), .int .i64 (1), .int .i64 (-1)] 23 (0, 0)) by rw [hv]; exact heap_alloc_new w1 _)
  replace hb : RdB v (some ⟨g, 0, none⟩) (supB s0) := by rw [hv]; exact hb.alloc _
  rw [← hv]
  clear hv v15 v23 v31 v39 kst
  go_loopw [88] (fun i wr => ∃ k : Nat, k ≤ 8 ∧ i = .int .i64 k ∧ Below v.heap.size v wr) (fun i _ => 8 - (intOf i).toNat)
  case atStart => exact ⟨0, by omega, rfl, Below.refl _ _⟩
  case round =>
    obtain ⟨k, hk, rfl, hbl⟩ := hrel
    by_cases hlt : k < 8
    · obtain ⟨x0, x1, x2, x3⟩ := row1 (kept1 hbl hr1.out) k hlt
      have PS := fun w => PutSuper_any w (sL k)
      rw [sL_no k hlt] at PS
      generalize putS (sL k) = PP at PS
      generalize sL k = sk at *
      obtain ⟨b, e, f, t⟩ := sk
      simp only [Sup.val] at *
      go_wp2_with fail
      refine (PS _).mono ?_
      rintro e w2 ⟨A2, c2, rfl, _, b2⟩
      go_wp2
      go_roundw
      case rel => exact ⟨k + 1, by omega, by go_num, (hbl.alloc hbl.size _).trans (b2.mono (by have := hbl.size; simp; omega))⟩
      case measure => simp [intOf]; omega
    · obtain rfl : k = 8 := by omega
      have bwr := bv.trans (hbl.mono bv.size)
      replace hb := RdB.below hb hbl
      clear hr1 hlt hk hbl
      go_wp2_with fail
      refine (many_lit _ 1 1 rfl (by decide)).mono ?_
      rintro e w2 ⟨M1, d1, rfl, gm, b2⟩
      have bw2 := bwr.trans (b2.mono bwr.size)
      replace hb := hb.below b2
      clear b2
      have m1 := gm.rd
      go_wp2_with fail
      refine (many_lit _ 4 4 rfl (by decide)).mono ?_
      rintro e w3 ⟨M4, d4, rfl, gn, b3⟩
      have bw3 := bw2.trans (b3.mono bw2.size)
      replace hb := hb.below b3
      replace m1 := m1.below b3
      clear b3
      have m4 := gn.rd
      go_wp2_with fail
      obtain ⟨v2, hv2⟩ : ∃ v2, v2 = w3.alloc (.cells #[.int .u8 0, .int .i64 (0), .int .i64 (1), .slice none 0 0, .int .i64 (0), .int .u8 0, .int .i64 (1), .int .i64 (0), .slice none 0 0, .int .i64 (0), .int .u8 0, .int .i64 (0), .int .i64 (0), .slice none 0 0, .int .i64 (1), .int .u8 0, .int .i64 (0), .int .i64 (0), .slice M1 1 d1, .int .i64 (0), .int .u8 3, .int .i64 (0), .int .i64 (0), .slice none 0 0, .int .i64 (0), .int .u8 1, .int .i64 (101), .int .i64 (0), .slice none 0 0, .int .i64 (0), .int .u8 1, .int .i64 (-1), .int .i64 (0), .slice none 0 0, .int .i64 (0), .int .u8 1, .int .i64 (0), .int .i64 (131073), .slice none 0 0, .int .i64 (0), .int .u8 1, .int .i64 (0), .int .i64 (0), .slice none 0 0, .int .i64 (512), .int .u8 1, .int .i64 (0), .int .i64 (0), .slice M4 4 d4, .int .i64 (0)] 27) := ⟨_, rfl⟩
      have bv2 : Below w.heap.size w v2 := by rw [hv2]; exact bw3.alloc bw3.size _
      have hr2 := hid (show v2.heap[w3.heap.size]? = some (.cells #[.int .u8 0, .int .i64 (0), .int .i64 (1), .slice none 0 0, .int .i64 (0), .int .u8 0, .int .i64 (1), .int .i64 (0), .slice none 0 0, .int .i64 (0), .int .u8 0, .int .i64 (0), .int .i64 (0), .slice none 0 0, .int .i64 (1), .int .u8 0, .int .i64 (0), .int .i64 (0), .slice M1 1 d1, .int .i64 (0), .int .u8 3, .int .i64 (0), .int .i64 (0), .slice none 0 0, .int .i64 (0), .int .u8 1, .int .i64 (101), .int .i64 (0), .slice none 0 0, .int .i64 (0), .int .u8 1, .int .i64 (-1), .int .i64 (0), .slice none 0 0, .int .i64 (0), .int .u8 1, .int .i64 (0), .int .i64 (131073), .slice none 0 0, .int .i64 (0), .int .u8 1, .int .i64 (0), .int .i64 (0), .slice none 0 0, .int .i64 (512), .int .u8 1, .int .i64 (0), .int .i64 (0), .slice M4 4 d4, .int .i64 (0)] 27 (0, 0)) by rw [hv2]; exact heap_alloc_new w3 _)
      replace hb : RdB v2 (some ⟨g, 0, none⟩) (supB s0) := by rw [hv2]; exact hb.alloc _
      replace m1 : RdX v2 M1 (manyX 1) := by rw [hv2]; exact m1.below ((Below.refl _ _).alloc (Nat.le_refl _) _)
      replace m4 : RdX v2 M4 (manyX 4) := by rw [hv2]; exact m4.below ((Below.refl _ _).alloc (Nat.le_refl _) _)
      rw [← hv2]
      clear hv2 gm gn
      go_loopw [114] (fun i wr => ∃ k : Nat, k ≤ 10 ∧ i = .int .i64 k ∧ Below v2.heap.size v2 wr) (fun i _ => 10 - (intOf i).toNat)
      case atStart => exact ⟨0, by omega, rfl, Below.refl _ _⟩
      case round =>
        obtain ⟨k, hk, rfl, hbl2⟩ := hrel
        by_cases hlt : k < 10
        · obtain ⟨x0, x1, x2, x3, x4⟩ := row2 (kept1 hbl2 hr2.out) k hlt
          have PS := fun w h1 h4 => PutInode_any w (iL k) (iA M1 M4 k) (iC d1 d4 k) (iL_in k hlt) (iL_rd w M1 M4 h1 h4 k hlt)
          rw [iL_no k hlt] at PS
          generalize putInd (iL k) = PP at PS
          generalize iA M1 M4 k = sA at *
          generalize iC d1 d4 k = sC at *
          generalize iL k = sk at *
          obtain ⟨ik, il, iz, ie, idr⟩ := sk
          simp only [Ind.val] at *
          replace m1 := hid (m1.below hbl2); replace m4 := hid (m4.below hbl2)
          go_wp2_with fail
          refine (PS _ (m1.out.below ((Below.refl _ _).alloc (Nat.le_refl _) _)) (m4.out.below ((Below.refl _ _).alloc (Nat.le_refl _) _))).mono ?_
          rintro e w4 ⟨A2, c2, rfl, _, b2⟩
          go_wp2
          go_roundw
          case rel => exact ⟨k + 1, by omega, by go_num, (hbl2.alloc hbl2.size _).trans (b2.mono (by have := hbl2.size; simp; omega))⟩
          case measure => simp [intOf]; omega
        · obtain rfl : k = 10 := by omega
          have bwq := bv2.trans (hbl2.mono bv2.size)
          replace hb := RdB.below hb hbl2
          clear hr2 hlt hk hbl2 m1 m4
          go_wp2_with fail
          refine (PutSuper_s2 _).mono ?_
          rintro e w4 ⟨⟨A5, c5, rfl⟩, b4⟩
          have bw4 := bwq.trans (b4.mono bwq.size)
          replace hb := hb.below b4
          clear b4
          go_wp2_with fail
          refine (PutInode_0 _).mono ?_
          rintro e w5 ⟨A6, c6, rfl, gz, b5⟩
          have bw5 := bw4.trans (b5.mono bw4.size)
          replace hb := hb.below b5
          clear b5
          have z1 := gz.rd
          go_wp2_with fail
          refine (GetInode_0 _ _ (RdB.made _ _ rfl)).mono ?_
          rintro e w6 ⟨A7, c7, rfl, b6⟩
          have bw6 := (bw5.alloc bw5.size _).trans (b6.mono (by have := bw5.size; simp; omega))
          replace hb := (hb.below ((Below.refl _ _).alloc (Nat.le_refl _) _)).below b6
          replace z1 := (z1.below ((Below.refl _ _).alloc (Nat.le_refl _) _)).below b6
          clear b6
          go_wp2_with fail
          refine (GetInode_none _ _ 63 63 (zeros 63) (zeros_length 63).symm (by rw [zeros_length]; decide) (RdB.made _ _ (by simp)) (ind_no (not_ind_len (by rw [zeros_length]; decide))).2).mono ?_
          rintro e w7 ⟨A8, c8, rfl, b7⟩
          have bw7 := (below_two bw6 bw6.size _ _).trans (b7.mono (by have := bw6.size; simp; omega))
          replace hb := ((hb.alloc _).alloc _).below b7
          replace z1 := ((z1.alloc _).alloc _).below b7
          have rx := hid (keptN2 b7)
          clear b7
          go_wp2_with fail
          refine (GetSuper_none _ _ 4096 4096 (zeros 4096) (zeros_length 4096).symm (by rw [zeros_length]; decide) (RdB.made _ _ (by simp)) supZ).mono ?_
          rintro e w8 ⟨rfl, b8⟩
          have bw8 := (below_two bw7 bw7.size _ _).trans (b8.mono (by have := bw7.size; simp; omega))
          replace hb := ((hb.alloc _).alloc _).below b8
          replace z1 := ((z1.alloc _).alloc _).below b8
          replace rx := hid (kept3 b8 rx.out)
          clear b8
          go_wp2_with fail
          refine (GetSuper_none _ none 0 0 [] rfl (by decide) (RdB.nil _ _) gerrS_nil).mono ?_
          rintro e w9 ⟨rfl, b9⟩
          have bw9 := (bw8.alloc bw8.size _).trans (b9.mono (by have := bw8.size; simp; omega))
          replace hb := (hb.below ((Below.refl _ _).alloc (Nat.le_refl _) _)).below b9
          replace z1 := (z1.below ((Below.refl _ _).alloc (Nat.le_refl _) _)).below b9
          replace rx := hid (kept2 b9 rx.out)
          clear b9
          go_wp2_with fail
          refine (nodeZ _).mono ?_
          rintro e w10 ⟨A9, c9, rfl, gl, b10⟩
          have bw10 := (bw9.alloc bw9.size _).trans (b10.mono (by have := bw9.size; simp; omega))
          replace hb := (hb.below ((Below.refl _ _).alloc (Nat.le_refl _) _)).below b10
          replace z1 := (z1.below ((Below.refl _ _).alloc (Nat.le_refl _) _)).below b10
          replace rx := hid (kept2 b10 rx.out)
          clear b10
          have NL := nodeB_length [] (by decide)
          obtain ⟨g9, rfl, _, hcl, _⟩ := gl.at_ (by intro e; rw [e] at NL; simp at NL)
          have vl := hcl 1 (by rw [NL]; decide)
          rw [nb1] at vl
          have vl1 : ∀ o, (w10.alloc o).cell? ⟨g9, 1, none⟩ = some (.int .u8 0) := fun o => cell_below ((Below.refl _ _).alloc (Nat.le_refl _) o) vl
          clear hcl gl NL vl
          obtain ⟨f0, f1, f2, f3, f4⟩ := five_alloc rx.out
          go_wp2_with fail
          refine (SameBytes_self _ _ _ _ _ _ _ (zeros 64) (zeros_length 64).symm (zeros_length 64).symm (z1.alloc _) (RdB.made _ _ rfl)).mono ?_
          rintro e w' ⟨rfl, rfl⟩
          go_wp2_with fail
          refine (many_lit _ 250 250 rfl (by decide)).mono ?_
          rintro e w11 ⟨A11, d11, rfl, gm5, b11⟩
          have bw11 := (bw10.alloc bw10.size _).trans (b11.mono (by have := bw10.size; simp; omega))
          replace hb := (hb.below ((Below.refl _ _).alloc (Nat.le_refl _) _)).below b11
          clear b11
          have m5 := gm5.rd
          clear f0 f1 f2 f3 f4 vl1 z1 rx gm5 gz
          go_wp2_with fail
          refine (PutNode_250 _ _ _ m5).mono ?_
          rintro e w12 ⟨A12, c12, rfl, go, b12⟩
          have bw12 := bw11.trans (b12.mono bw11.size)
          replace hb := hb.below b12
          clear b12
          have NN := nodeB_length (manyX 250) (by rw [manyX_length]; decide)
          obtain ⟨g12, rfl, _, _, _⟩ := go.at_ (by intro e; rw [e] at NN; simp at NN)
          have hc12 : 4096 ≤ c12 := by have := go.cap.1; rw [NN] at this; exact this
          have hc12b : (4095 : Int) ≤ (c12 : Int) := by omega
          have ho := go.rd
          clear NN go m5
          go_wp2_with fail
          refine (many_lit _ 251 251 rfl (by decide)).mono ?_
          rintro e w13 ⟨A13, d13, rfl, gm6, b13⟩
          have bw13 := bw12.trans (b13.mono bw12.size)
          replace hb := hb.below b13
          replace ho := ho.below b13
          clear b13
          have m6 := gm6.rd
          go_wp2_with fail
          refine (PutNode_251 _ _ _ m6).mono ?_
          rintro e w14 ⟨⟨A14, c14, rfl⟩, b14⟩
          have bw14 := bw13.trans (b14.mono bw13.size)
          replace hb := hb.below b14
          replace ho := ho.below b14
          clear b14
          clear m6 gm6
          go_wp2_with fail
          refine (GetNode_250 _ _ _ ho).mono ?_
          rintro e w15 ⟨⟨A15, c15, rfl⟩, b15⟩
          have bw15 := bw14.trans (b15.mono bw14.size)
          replace hb := hb.below b15
          replace ho := ho.below b15
          clear b15
          go_wp2_with fail
          refine (GetNode_cut _ _ _ ho).mono ?_
          rintro e w16 ⟨⟨A16, c16, rfl⟩, b16⟩
          have bw16 := bw15.trans (b16.mono bw15.size)
          replace hb := hb.below b16
          replace ho := ho.below b16
          clear b16
          go_wp2_with fail
          refine (Right_lit _ _ _ 2 [⟨0, 30, 2⟩, ⟨2, 40, 1⟩] true rfl (by decide) (RdX.lit _ _ _ _ (by simp [extCells, Ext.cells]) rfl) (okX2 _ _ (by refine ⟨?_, ?_, ?_⟩ <;> decide) (by refine ⟨?_, ?_, ?_⟩ <;> decide)) (by decide)).mono ?_
          rintro e w17 ⟨rfl, b17⟩
          have bw17 := (bw16.alloc bw16.size _).trans (b17.mono (by have := bw16.size; simp; omega))
          replace hb := (hb.below ((Below.refl _ _).alloc (Nat.le_refl _) _)).below b17
          replace ho := (ho.below ((Below.refl _ _).alloc (Nat.le_refl _) _)).below b17
          clear b17
          go_wp2_with fail
          refine (Right_lit _ _ _ 2 [⟨0, 30, 2⟩, ⟨1, 40, 1⟩] false rfl (by decide) (RdX.lit _ _ _ _ (by simp [extCells, Ext.cells]) rfl) (okX2 _ _ (by refine ⟨?_, ?_, ?_⟩ <;> decide) (by refine ⟨?_, ?_, ?_⟩ <;> decide)) (by decide)).mono ?_
          rintro e w18 ⟨rfl, b18⟩
          have bw18 := (bw17.alloc bw17.size _).trans (b18.mono (by have := bw17.size; simp; omega))
          replace hb := (hb.below ((Below.refl _ _).alloc (Nat.le_refl _) _)).below b18
          replace ho := (ho.below ((Below.refl _ _).alloc (Nat.le_refl _) _)).below b18
          clear b18
          go_wp2_with fail
          refine (Right_lit _ _ _ 1 [⟨0, 1, 511⟩] true rfl (by decide) (RdX.lit _ _ _ _ (by simp [extCells, Ext.cells]) rfl) (okX1 _ (by refine ⟨?_, ?_, ?_⟩ <;> decide)) (by decide)).mono ?_
          rintro e w19 ⟨rfl, b19⟩
          have bw19 := (bw18.alloc bw18.size _).trans (b19.mono (by have := bw18.size; simp; omega))
          replace hb := (hb.below ((Below.refl _ _).alloc (Nat.le_refl _) _)).below b19
          replace ho := (ho.below ((Below.refl _ _).alloc (Nat.le_refl _) _)).below b19
          clear b19
          go_wp2_with fail
          refine (Right_lit _ _ _ 1 [⟨0, 1, 512⟩] false rfl (by decide) (RdX.lit _ _ _ _ (by simp [extCells, Ext.cells]) rfl) (okX1 _ (by refine ⟨?_, ?_, ?_⟩ <;> decide)) (by decide)).mono ?_
          rintro e w20 ⟨rfl, b20⟩
          have bw20 := (bw19.alloc bw19.size _).trans (b20.mono (by have := bw19.size; simp; omega))
          replace hb := (hb.below ((Below.refl _ _).alloc (Nat.le_refl _) _)).below b20
          replace ho := (ho.below ((Below.refl _ _).alloc (Nat.le_refl _) _)).below b20
          clear b20
          go_wp2_with fail
          refine (Right_lit _ _ _ 1 [⟨0, 0, 1⟩] false rfl (by decide) (RdX.lit _ _ _ _ (by simp [extCells, Ext.cells]) rfl) (okX1 _ (by refine ⟨?_, ?_, ?_⟩ <;> decide)) (by decide)).mono ?_
          rintro e w21 ⟨rfl, b21⟩
          have bw21 := (bw20.alloc bw20.size _).trans (b21.mono (by have := bw20.size; simp; omega))
          replace hb := (hb.below ((Below.refl _ _).alloc (Nat.le_refl _) _)).below b21
          replace ho := (ho.below ((Below.refl _ _).alloc (Nat.le_refl _) _)).below b21
          clear b21
          go_wp2_with fail
          refine (Right_lit _ _ _ 1 [⟨512, 1, 1⟩] false rfl (by decide) (RdX.lit _ _ _ _ (by simp [extCells, Ext.cells]) rfl) (okX1 _ (by refine ⟨?_, ?_, ?_⟩ <;> decide)) (by decide)).mono ?_
          rintro e w22 ⟨rfl, b22⟩
          have bw22 := (bw21.alloc bw21.size _).trans (b22.mono (by have := bw21.size; simp; omega))
          replace hb := (hb.below ((Below.refl _ _).alloc (Nat.le_refl _) _)).below b22
          replace ho := (ho.below ((Below.refl _ _).alloc (Nat.le_refl _) _)).below b22
          clear b22
          go_wp2_with fail
          refine (many_lit _ 256 256 rfl (by decide)).mono ?_
          rintro e w23 ⟨A23, d23, rfl, gm7, b23⟩
          have bw23 := bw22.trans (b23.mono bw22.size)
          replace hb := hb.below b23
          replace ho := ho.below b23
          clear b23
          have m7 := gm7.rd
          go_wp2_with fail
          refine (Right_lit _ _ _ 256 (manyX 256) true (manyX_length _).symm (by rw [manyX_length]; decide) m7 (manyX_okX _ (by decide)) right256).mono ?_
          rintro e w24 ⟨rfl, b24⟩
          have bw24 := bw23.trans (b24.mono bw23.size)
          replace hb := hb.below b24
          replace ho := ho.below b24
          clear b24
          clear gm7 m7
          go_wp2_with fail
          refine (Right_lit _ _ _ 1 [⟨9223372036854775807, 1, 9223372036854775807⟩] false rfl (by decide) (RdX.lit _ _ _ _ (by simp [extCells, Ext.cells]) rfl) (okX1 _ (by refine ⟨?_, ?_, ?_⟩ <;> decide)) (by decide)).mono ?_
          rintro e w25 ⟨rfl, b25⟩
          have bw25 := (bw24.alloc bw24.size _).trans (b25.mono (by have := bw24.size; simp; omega))
          replace hb := (hb.below ((Below.refl _ _).alloc (Nat.le_refl _) _)).below b25
          replace ho := (ho.below ((Below.refl _ _).alloc (Nat.le_refl _) _)).below b25
          clear b25
          go_wp2_with fail
          refine (sums_any _ g c1 g12 c12 hb hc1 ho hc12).mono ?_
          rintro e w26 ⟨rfl, b26⟩
          have bw26 := bw25.trans (b26.mono bw25.size)
          replace hb := hb.below b26
          replace ho := ho.below b26
          clear b26
          go_wp2_with fail
          refine (awake03_any _).mono ?_
          rintro e w27 ⟨rfl, b27⟩
          have bw27 := bw26.trans (b27.mono bw26.size)
          replace hb := hb.below b27
          replace ho := ho.below b27
          clear b27
          go_wp2
          go_ret
          exact ⟨rfl, bw27⟩
end Go.Proofs.Ytjblpejekcbokaa
