/- RecordWhole, the walk (printed by gen06s.py). -/
import Derived.Test.YtknhfaplddgnlaaLaw06c
namespace Go.Proofs.Ytknhfaplddgnlaa
open Go.RowKit
set_option maxHeartbeats 1500000
set_option maxRecDepth 100000
set_option linter.unusedVariables false
set_option linter.unusedSimpArgs false

theorem whole_main1 (w : World) (E Q : Nat) (a : Option Addr) (N c : Nat) (ims : List Img) (hN : N = ims.length) (hg : RdG w a ims) (E2 Q2 : Nat) (a2 : Option Addr) (N2 c2 : Nat) (ims2 : List Img) (hN2 : N2 = ims2.length) (hg2 : RdG w a2 ims2) (a3 : Option Addr) (N3 c3 : Nat) (zs : List Int) (hN3 : N3 = zs.length) (hz : ∀ z ∈ zs, -9223372036854775808 ≤ z ∧ z ≤ 9223372036854775807) (hg3 : RdI w a3 zs) (nz : Bool)
    (hR : rightG (E : Int) (Q : Int) ims = true) (hR2 : rightG (E2 : Int) (Q2 : Int) ims2 = true) (v1 : ((E : Int) == (E2 : Int)) = false) :
    Calls Try.prog 5 #[.agg #[.int .i64 (E : Int), .int .i64 (Q : Int), .slice a N c], .agg #[.int .i64 (E2 : Int), .int .i64 (Q2 : Int), .slice a2 N2 c2], .slice a3 N3 c3, .bool nz] w fun e w' => e = .returned (.bool true) ∧ Below w.heap.size w w' := by
  have hne : ¬ (E = E2 ∧ Q = Q2) := by
    rintro ⟨rfl, rfl⟩
    simp at v1
  have hb0 : Below w.heap.size w ((w.alloc (.cells #[.int .i64 (E : Int), .int .i64 (Q : Int), .slice a N c] 28)).alloc (.cells #[.int .i64 (E2 : Int), .int .i64 (Q2 : Int), .slice a2 N2 c2] 28)) := ((Below.refl _ _).alloc (Nat.le_refl _) _).alloc (by simp) _
  have hrA : ((w.alloc (.cells #[.int .i64 (E : Int), .int .i64 (Q : Int), .slice a N c] 28)).alloc (.cells #[.int .i64 (E2 : Int), .int .i64 (Q2 : Int), .slice a2 N2 c2] 28)).heap[w.heap.size]? = some (.cells #[.int .i64 (E : Int), .int .i64 (Q : Int), .slice a N c] 28 (0, 0)) := (Below.heap_alloc _ _ _ (by simp)).trans (heap_alloc_new w _)
  have hrB : ((w.alloc (.cells #[.int .i64 (E : Int), .int .i64 (Q : Int), .slice a N c] 28)).alloc (.cells #[.int .i64 (E2 : Int), .int .i64 (Q2 : Int), .slice a2 N2 c2] 28)).heap[w.heap.size + 1]? = some (.cells #[.int .i64 (E2 : Int), .int .i64 (Q2 : Int), .slice a2 N2 c2] 28 (0, 0)) := by
    have := heap_alloc_new (w.alloc (.cells #[.int .i64 (E : Int), .int .i64 (Q : Int), .slice a N c] 28)) (.cells #[.int .i64 (E2 : Int), .int .i64 (Q2 : Int), .slice a2 N2 c2] 28)
    simpa using this
  obtain ⟨w0, hw0⟩ : ∃ w0, w0 = (w.alloc (.cells #[.int .i64 (E : Int), .int .i64 (Q : Int), .slice a N c] 28)).alloc (.cells #[.int .i64 (E2 : Int), .int .i64 (Q2 : Int), .slice a2 N2 c2] 28) := ⟨_, rfl⟩
  obtain ⟨q0, q1, q2⟩ := cells3 hrA
  obtain ⟨r0, r1, r2⟩ := cells3 hrB
  rw [← hw0] at hb0 hrA hrB
  have PT := Put_any w0 (E : Int) (Q : Int) a N c ims hN (hg.below hb0)
  have hro := rightG_out hR
  have hro2 := rightG_out hR2
  have hN32 : N ≤ 32 := by have := hro.2.2.2.2.2.1; omega
  have hN232 : N2 ≤ 32 := by have := hro2.2.2.2.2.2.1; omega
  have HR := hid hR; have HR2 := hid hR2; have HNE := hid hne; have HZ := hid hz; have HN3 := hid hN3; have HG3 := hid hg3
  have HN := hid hN; have HN2 := hid hN2; have HG := hid hg; have HG2 := hid hg2; have HW0 := hid hw0; have HB0 := hid hb0; have HRA := hid hrA; have HRB := hid hrB
  have hpl : (putB E Q ims).length = N + 1 := by rw [putB_length, ← hN]
  have hpl2 : (putB E2 Q2 ims2).length = N2 + 1 := by rw [putB_length, ← hN2]
  have HPL := hid hpl; have HPL2 := hid hpl2
  rw [hw0] at PT
  clear hN hN2 hg hg2 hw0 hb0 hrA hrB hro hro2 hR hR2 hne hz hN3 hg3 hpl hpl2
  go_enter Try.func5, Try.ntmps5
  go_wp2_with fail
  refine PT.mono ?_
  rw [← HW0.out]
  rintro e w1 ⟨b1, _, p1⟩
  obtain ⟨L1, cL1, gs1, rfl, o1⟩ := p1 HR.out
  clear PT q0 q1 q2 r0 r1 r2 p1
  rw [Int.toNat_natCast, Int.toNat_natCast] at o1
  have hb1 := HB0.out.trans (b1.mono HB0.out.size)
  have PT := Put_any w1 (E2 : Int) (Q2 : Int) a2 N2 c2 ims2 HN2.out (HG2.out.below hb1)
  obtain ⟨r0, r1, r2⟩ := cells3 ((b1.block _ (heap_in HRB.out)).trans HRB.out)
  have HB1 := hid hb1; have B1 := hid b1; have O1 := hid o1
  clear hb1 b1 o1
  go_wp2_with fail
  refine PT.mono ?_
  rintro e w2 ⟨b2, _, p2⟩
  obtain ⟨L2, cL2, gs2, rfl, o2⟩ := p2 HR2.out
  clear PT r0 r1 r2 p2
  rw [Int.toNat_natCast, Int.toNat_natCast] at o2
  have b02 := B1.out.trans (b2.mono B1.out.size)
  have hb2 := HB1.out.trans (b2.mono HB1.out.size)
  have hrA2 := (b02.block _ (heap_in HRA.out)).trans HRA.out
  have hrB2 := (b02.block _ (heap_in HRB.out)).trans HRB.out
  obtain ⟨q0, q1, q2⟩ := cells3 hrA2
  obtain ⟨r0, r1, r2⟩ := cells3 hrB2
  have o12 := O1.out.below b2
  have cap1 := own_cap o12.row
  rw [HPL.out] at cap1
  have capM : N + 1 ≤ cL1 ∧ cL1 ≤ 9223372036854775807 := ⟨cap1.1, by have := cap1.2; simp only [maxLen] at this; omega⟩
  have GT := GetPut w2 L1 cL1 N E Q ims HN.out HR.out capM o12.rd
  have HRA2 := hid hrA2; have HRB2 := hid hrB2; have HB2 := hid hb2; have O12 := hid o12; have O22 := hid o2; have CAPM := hid capM
  clear hrA2 hrB2 hb2 o12 o2 b02 b2 cap1 capM HRA HRB HB1 B1 O1
  go_wp2_with fail
  refine GT.mono ?_
  rintro e w3 ⟨b3, A3, c3', gs3, rfl, o3⟩
  clear GT q0 q1 q2 r0 r1 r2 v1
  have ba3 : Below w3.heap.size w3 (w3.alloc (.cells #[.int .i64 (E : Int), .int .i64 (Q : Int), .slice A3 N c3'] 28)) := (Below.refl _ _).alloc (Nat.le_refl _) _
  have hG1 := heap_alloc_new w3 (.cells #[.int .i64 (E : Int), .int .i64 (Q : Int), .slice A3 N c3'] 28)
  have b24 := b3.trans (ba3.mono b3.size)
  have r34 := (o3.below ba3).rd
  rw [show (ims.map (·.1)).zip (ims.map (·.2)) = ims by simp [List.zip_map']] at r34
  obtain ⟨w4, hw4⟩ : ∃ w4, w4 = w3.alloc (.cells #[.int .i64 (E : Int), .int .i64 (Q : Int), .slice A3 N c3'] 28) := ⟨_, rfl⟩
  rw [← hw4] at hG1 b24 r34
  have hb4 := HB2.out.trans (b24.mono HB2.out.size)
  have SG := SameGroup_any w4 (E : Int) (Q : Int) (E : Int) (Q : Int) A3 a c3' c N N ims ims HN.out HN.out (by have := HN.out; omega) r34 (HG.out.below hb4)
  rw [show decide ((E : Int) = (E : Int) ∧ (Q : Int) = (Q : Int) ∧ ims = ims) = true from decide_eq_true ⟨rfl, rfl, rfl⟩] at SG
  have hrA4 := (b24.block _ (heap_in HRA2.out)).trans HRA2.out
  obtain ⟨q0, q1, q2⟩ := cells3 hrA4
  obtain ⟨x0, x1, x2⟩ := cells3 hG1
  have HB4 := hid hb4; have HRA4 := hid hrA4; have HRB4 := hid ((b24.block _ (heap_in HRB2.out)).trans HRB2.out); have O14 := hid (O12.out.below b24); have O24 := hid (O22.out.below b24)
  have HW4 := hid hw4
  rw [hw4] at SG q0 q1 q2 x0 x1 x2
  clear hrA4 hb4 b24 r34 hG1 ba3 o3 b3 hw4 HRA2 HRB2 HB2 O12 O22
  go_wp2_with fail
  refine SG.mono ?_
  rw [← HW4.out]
  rintro e w5 ⟨rfl, b5⟩
  clear SG q0 q1 q2 x0 x1 x2
  have hb5 := HB4.out.trans (b5.mono HB4.out.size)
  have o15 := O14.out.below b5
  have hle : ∀ l ∈ putB E Q ims, l.length ≤ 200000000000000 := by
    intro l hl
    obtain ⟨i, hi, rfl⟩ := List.getElem_of_mem hl
    rw [(put_stamped HR.out i _ (List.getElem?_eq_getElem hi)).1]
    omega
  have CL := CopyLists_any w5 (some ⟨L1, 0, none⟩) cL1 (N + 1) (putB E Q ims) HPL.out.symm (by have := HPL.out; omega) hle o15.rd
  have HB5 := hid hb5; have HRA5 := hid ((b5.block _ (heap_in HRA4.out)).trans HRA4.out); have HRB5 := hid ((b5.block _ (heap_in HRB4.out)).trans HRB4.out); have O25 := hid (O24.out.below b5)
  clear hb5 o15 hle b5 HB4 HRA4 HRB4 O14 O24 HW4
  go_wp2_with fail
  refine CL.mono ?_
  rintro e w6 ⟨A6, c6, av6, rfl, row6, own6, b6⟩
  clear CL
  obtain ⟨gs6, hk6, hv6⟩ := own6.blk (fun l hl => by
    obtain ⟨i, hi, rfl⟩ := List.getElem_of_mem hl
    exact (put_stamped HR.out i _ (List.getElem?_eq_getElem hi)).1)
  rw [hv6] at row6
  obtain ⟨L6, c6', e6, _, _⟩ := own_slice1 row6 (by omega)
  simp only [Value.slice.injEq, true_and] at e6
  obtain ⟨rfl, rfl⟩ := e6
  obtain ⟨F0, hF0⟩ : ∃ F : Nat → Nat → UInt8, F = fun b j => bat ((putB E Q ims).getD b []) j := ⟨_, rfl⟩
  have ht0 : tabs (N + 1) F0 = putB E Q ims := tabs_bat (fun l hl => by
    obtain ⟨i, hi, rfl⟩ := List.getElem_of_mem hl
    exact (put_stamped HR.out i _ (List.getElem?_eq_getElem hi)).1) (N + 1) HPL.out.symm F0 (fun b j _ _ => by rw [hF0])
  have hm0 : ∀ b j, b < N + 1 → j < 4096 → F0 b j = mixF nz (putB E Q ims) (putB E2 Q2 ims2) [] b j := fun b j _ _ => by rw [hF0]; simp [mixF]
  have o6 : OwLs w5.heap.size w6 L6 c6 gs6 (tabs (N + 1) F0) := by
    rw [ht0]
    refine ⟨?_, hk6⟩
    rw [HPL.out]
    exact row6
  have O6 := hid o6; have HM0 := hid hm0; have B6 := hid b6
  have hgl6 : gs6.length = N + 1 := by rw [hk6.len, HPL.out]
  have HGL := hid hgl6
  clear row6 own6 hk6 hv6 hF0 ht0 hm0 o6 b6 hgl6
  go_wp2_with fail
  go_loopw [16, 17] (fun vs i wr => ∃ (k : Nat) (F : Nat → Nat → UInt8) (ks : List Nat), k ≤ 40 ∧ k ≤ N3 ∧ i = .int .i64 ((k : Nat) : Int) ∧ vs = .bool (decide (0 < k)) ∧ ks.length = k ∧ (∀ y ∈ ks, y < 8 * (N + 1)) ∧ (∀ b j, b < N + 1 → j < 4096 → F b j = mixF nz (putB E Q ims) (putB E2 Q2 ims2) ks b j) ∧ OwLs w5.heap.size wr L6 c6 gs6 (tabs (N + 1) F) ∧ Below w5.heap.size w5 wr) (fun _ i _ => 40 - (intOf i).toNat)
  case atStart => exact ⟨0, F0, [], by omega, by omega, rfl, rfl, rfl, by simp, HM0.out, O6.out, B6.out⟩
  case round => as_aux_lemma =>
    obtain ⟨k, F, ks, hk40, hk3, rfl, rfl, hkl, hkb, hF, ho, hb⟩ := hrel
    by_cases hlt : k < N3 ∧ k < 40
    · obtain ⟨hlt1, hlt2⟩ := hlt
      obtain ⟨z, hz⟩ : ∃ z, zs[k]? = some z := ⟨zs[k]'(by rw [← HN3.out]; exact hlt1), List.getElem?_eq_getElem _⟩
      have hzr := HZ.out z (List.mem_of_getElem? hz)
      have hbw := HB5.out.trans (hb.mono HB5.out.size)
      obtain ⟨zb, zo, rfl, z0⟩ := (HG3.out.below hbw) k z hz
      have PK := Pick_any wr z (8 * (N + 1)) hzr (by omega) (by omega)
      rw [show ((8 * (N + 1) : Nat) : Int) = 8 * ((N : Int) + 1) by push_cast; rfl] at PK
      have HKL := hid hkl; have HKB := hid hkb; have HF := hid hF; have HO := hid ho; have HB := hid hb
      obtain ⟨wo, rfl⟩ : ∃ wo : World, wo = wr := ⟨_, rfl⟩
      clear hkl hkb hF ho hb hz hzr hbw
      go_wp2_with fail
      refine PK.mono ?_
      rintro e w7 ⟨⟨p, hp, rfl⟩, rfl⟩
      clear PK z0
      obtain ⟨b, hbe⟩ : ∃ b, b = p / 8 := ⟨_, rfl⟩
      obtain ⟨s, hse⟩ : ∃ s, s = p % 8 := ⟨_, rfl⟩
      have hs8 : s < 8 := by omega
      have hbN : b < N + 1 := by omega
      have hpe : p = b * 8 + s := by omega
      have hq8 : (p : Int).tdiv 8 = (b : Int) := by rw [Int.tdiv_eq_ediv_of_nonneg (by omega)]; omega
      have hr8 : (p : Int).tmod 8 = (s : Int) := by rw [Int.tmod_eq_emod_of_nonneg (by omega)]; omega
      have HP := hid hp; have HPE := hid hpe
      clear hbe hse hp hpe
      obtain ⟨⟨g, cg⟩, hgb⟩ : ∃ x, gs6[b]? = some x := ⟨gs6[b]'(by rw [HGL.out]; exact hbN), List.getElem?_eq_getElem _⟩
      have HGB := hid hgb
      clear hgb
      go_wp2_with fail
      go_loopw [21] (fun j wr => ∃ (x : Nat) (F2 : Nat → Nat → UInt8), s * 512 ≤ x ∧ x ≤ s * 512 + 512 ∧ j = .int .i64 ((x : Nat) : Int) ∧ (∀ b' j', F2 b' j' = if b' = b ∧ s * 512 ≤ j' ∧ j' < x then srcB nz (putB E2 Q2 ims2) b' j' else F b' j') ∧ OwLs w5.heap.size wr L6 c6 gs6 (tabs (N + 1) F2) ∧ Below w5.heap.size w5 wr) (fun j _ => 4096 - (intOf j).toNat)
      case atStart => exact ⟨s * 512, F, Nat.le_refl _, by omega, by push_cast; rfl, fun b' j' => by rw [if_neg (by omega)], HO.out, HB.out⟩
      case round => as_aux_lemma =>
        obtain ⟨x, F2, hx1, hx2, rfl, hF2, ho2, hb2⟩ := hrel
        by_cases hxl : x < s * 512 + 512
        · have hxI : (x : Int) < ((s : Int) + 1) * 512 := by omega
          have hx4 : x < 4096 := by omega
          obtain ⟨hob, hol⟩ := ho2.blk.own b (g, cg) _ HGB.out (tabs_at (N + 1) F2 b hbN)
          have m0 := World.ownsRow.cellAt ho2.row b (by rw [tabs_length]; omega)
          rw [show (vals gs6)[b]? = some (.slice (some ⟨g, 0, none⟩) 4096 cg) by simp [vals, HGB.out]] at m0
          obtain ⟨_, e, _, m1, mf⟩ := hob.at_ (by intro e; rw [e] at hol; exact absurd hol (by decide))
          have e := Option.some.inj e
          simp only [Addr.mk.injEq, and_true] at e
          subst e
          have m1 := m1 x (by rw [hol]; exact hx4)
          have mf := mf x
          have HO2 := hid ho2; have HB2 := hid hb2; have HF2 := hid hF2
          have hgw : w5.heap.size ≤ g := (hob.lt).1
          have HGW := hid hgw
          have hpl2 := HPL2.out
          clear hob hol hb2 hF2 hgw
          have STEP : ∀ (W : World), Below wr.heap.size wr W → ∀ v : UInt8, v = srcB nz (putB E2 Q2 ims2) b x → (∀ b' j', updF F2 b x v b' j' = if b' = b ∧ s * 512 ≤ j' ∧ j' < x + 1 then srcB nz (putB E2 Q2 ims2) b' j' else F b' j') ∧ OwLs w5.heap.size (W.setCell ⟨g, x, none⟩ (.int .u8 (v.toNat : Int))) L6 c6 gs6 (tabs (N + 1) (updF F2 b x v)) ∧ Below w5.heap.size w5 (W.setCell ⟨g, x, none⟩ (.int .u8 (v.toNat : Int))) :=
            fun W hW v hv => ⟨inner_step hx1 hv HF2.out, (HO2.out.below hW).put HGB.out hbN hx4 v, (HB2.out.trans (hW.mono HB2.out.size)).setCell (p := ⟨g, x, none⟩) HGW.out _⟩
          have ST := hid STEP
          clear STEP ho2
          by_cases hn : nz = true
          · subst hn
            clear hpl2
            have S0 := hid (ST.out wr (Below.refl _ _) 0 (by unfold srcB; rw [if_pos (.inl rfl)]))
            go_wp2_with fail
            go_roundw
            case rel => exact ⟨x + 1, updF F2 b x 0, by omega, by omega, by go_num, S0.out.1, S0.out.2.1, S0.out.2.2⟩
            case measure => simp [intOf]; omega
          · have hn : nz = false := by simpa using hn
            subst hn
            by_cases hbM : N2 + 1 ≤ b
            · have hbI : (N2 : Int) + 1 ≤ (b : Int) := by omega
              have S0 := hid (ST.out wr (Below.refl _ _) 0 (by unfold srcB; rw [if_pos (.inr (by rw [hpl2]; exact hbM))]))
              clear hpl2
              go_wp2_with fail
              go_roundw
              case rel => exact ⟨x + 1, updF F2 b x 0, by omega, by omega, by go_num, S0.out.1, S0.out.2.1, S0.out.2.2⟩
              case measure => simp [intOf]; omega
            · have hbI : (b : Int) < (N2 : Int) + 1 := by omega
              have hbI1 : (b : Int) < (N : Int) + 1 := by omega
              have hx4I : (x : Int) < 4096 := by omega
              have hbl : b < (putB E2 Q2 ims2).length := by rw [hpl2]; omega
              obtain ⟨l, hl⟩ : ∃ l, (putB E2 Q2 ims2)[b]? = some l := ⟨_, List.getElem?_eq_getElem hbl⟩
              have hl4 := (put_stamped HR2.out b l hl).1
              obtain ⟨v, hv⟩ : ∃ v, v = bat l x := ⟨_, rfl⟩
              have hsv : v = srcB false (putB E2 Q2 ims2) b x := by
                unfold srcB
                rw [if_neg (by rw [hpl2]; simp; omega), List.getD_eq_getElem?_getD, hl]
                exact hv
              obtain ⟨mb, mo, Y, yc, hLL, y0', y1', y2, y3⟩ := O25.out.rd b l hl
              rw [hl4] at y0'
              obtain ⟨yb, yo, rfl, y4'⟩ := y1'.at_ (by intro e; rw [e] at hl4; exact absurd hl4 (by decide))
              have y4' := y4' x (by rw [hl4]; exact hx4)
              cases hLL
              rw [Nat.zero_add] at y0'
              rw [← hv] at y4'
              have mbL : L2 < w5.heap.size := World.block_lt_of_cell? w5 _ y0'
              have ybL : yb < w5.heap.size := World.block_lt_of_cell? w5 _ y4'
              have y0 := cell_below HB2.out y0'
              have y4 := cell_below HB2.out y4'
              have sX : wr.drew.cell? ⟨L6, b, none⟩ = some (.slice (some ⟨g, 0, none⟩) 4096 cg) ∧ wr.drew.cell? ⟨L2, b, none⟩ = some (.slice (some ⟨yb, yo, none⟩) 4096 yc) ∧ wr.drew.cell? ⟨yb, yo + x, none⟩ = some (.int .u8 (v.toNat : Int)) := ⟨m0, y0, y4⟩
              have S0 := hid (ST.out wr.drew (below_drw (Below.refl _ _)) v hsv)
              have hgL : ¬ L6 = g := HO2.out.ne (List.mem_of_getElem? HGB.out)
              have hgW := HGW.out
              have KG : Kpt (fun b => b = g) wr.drew (wr.drew.setCell ⟨g, x, none⟩ (.int .u8 (v.toNat : Int))) := (Kpt.refl (fun b => b = g) wr.drew).stc rfl _
              have s9 : (wr.drew.setCell ⟨g, x, none⟩ (.int .u8 (v.toNat : Int))).cell? ⟨L6, b, none⟩ = some (.slice (some ⟨g, 0, none⟩) 4096 cg) ∧ (wr.drew.setCell ⟨g, x, none⟩ (.int .u8 (v.toNat : Int))).cell? ⟨L2, b, none⟩ = some (.slice (some ⟨yb, yo, none⟩) 4096 yc) ∧ (wr.drew.setCell ⟨g, x, none⟩ (.int .u8 (v.toNat : Int))).cell? ⟨yb, yo + x, none⟩ = some (.int .u8 (v.toNat : Int)) := ⟨KG.cell sX.1 hgL, KG.cell sX.2.1 (by omega), KG.cell sX.2.2 (by omega)⟩
              have m1d : wr.drew.cell? ⟨g, x, none⟩ = some _ := m1
              have mfd : wr.drew.frozen? ⟨g, x, none⟩ = false := mf
              clear hpl2 hbl hl hl4 hsv hv y0 y0' y1' y4 y4' m1 mf KG hgL mbL ybL hgW m0
              go_wp2_with fail
              refine wp_region_held_drew (S := fun W1 => W1.cell? ⟨L6, b, none⟩ = some (.slice (some ⟨g, 0, none⟩) 4096 cg) ∧ W1.cell? ⟨L2, b, none⟩ = some (.slice (some ⟨yb, yo, none⟩) 4096 yc) ∧ W1.cell? ⟨yb, yo + x, none⟩ = some (.int .u8 (v.toNat : Int))) (by kernel_rfl) (by exact sX) (fun hHeld => ?_)
              refine wpAnyH_take (i := 0) (oi := ?o0z1) (v := ?v0z1) ?hi0z1 (by kernel_rfl) (by kernel_rfl) ?hr0z1 ?hQ0z1 ?hy0z1 hHeld ?r0z1
              case hi0z1 => (simp only [List.getElem?_toArray, List.getElem?_cons_zero, List.getElem?_cons_succ]; rfl)
              case hr0z1 => kernel_rfl
              case hQ0z1 => exact fun _ _ _ h => h
              case hy0z1 => (refine Or.inl ⟨by rfl, ?_⟩; intro w hSw; (try dsimp only at hSw); go_simp; try with_reducible rfl)
              try simp only [Act.put, List.setIfInBounds_toArray, List.set_cons_zero, List.set_cons_succ]
              refine wpAnyH_take (i := 1) (oi := ?o1z1) (v := ?v1z1) ?hi1z1 (by kernel_rfl) (by kernel_rfl) ?hr1z1 ?hQ1z1 ?hy1z1 hHeld ?r1z1
              case hi1z1 => (simp only [List.getElem?_toArray, List.getElem?_cons_zero, List.getElem?_cons_succ]; rfl)
              case hr1z1 => kernel_rfl
              case hQ1z1 => exact fun _ _ _ h => h
              case hy1z1 => (refine Or.inl ⟨by rfl, ?_⟩; intro w hSw; (try dsimp only at hSw); go_simp; try with_reducible rfl)
              try simp only [Act.put, List.setIfInBounds_toArray, List.set_cons_zero, List.set_cons_succ]
              refine wpAnyH_take (i := 2) (oi := ?o2z1) (v := ?v2z1) ?hi2z1 (by kernel_rfl) (by kernel_rfl) ?hr2z1 ?hQ2z1 ?hy2z1 hHeld ?r2z1
              case hi2z1 => (simp only [List.getElem?_toArray, List.getElem?_cons_zero, List.getElem?_cons_succ]; rfl)
              case hr2z1 => kernel_rfl
              case hQ2z1 => exact fun _ _ _ h => h
              case hy2z1 => (refine Or.inl ⟨by rfl, ?_⟩; intro w hSw; (try dsimp only at hSw); go_simp; try with_reducible rfl)
              try simp only [Act.put, List.setIfInBounds_toArray, List.set_cons_zero, List.set_cons_succ]
              refine wpAnyH_take (i := 3) (oi := ?o3z1) (v := ?v3z1) ?hi3z1 (by kernel_rfl) (by kernel_rfl) ?hr3z1 ?hQ3z1 ?hy3z1 hHeld ?r3z1
              case hi3z1 => (simp only [List.getElem?_toArray, List.getElem?_cons_zero, List.getElem?_cons_succ]; rfl)
              case hr3z1 => kernel_rfl
              case hQ3z1 => exact fun _ _ _ h => h
              case hy3z1 => (refine Or.inl ⟨by rfl, ?_⟩; intro w hSw; (try dsimp only at hSw); go_simp; try with_reducible rfl)
              try simp only [Act.put, List.setIfInBounds_toArray, List.set_cons_zero, List.set_cons_succ]
              refine wpAnyH_take (i := 4) (oi := ?o4z1) (v := ?v4z1) ?hi4z1 (by kernel_rfl) (by kernel_rfl) ?hr4z1 ?hQ4z1 ?hy4z1 hHeld ?r4z1
              case hi4z1 => (simp only [List.getElem?_toArray, List.getElem?_cons_zero, List.getElem?_cons_succ]; rfl)
              case hr4z1 => kernel_rfl
              case hQ4z1 => exact fun _ _ _ h => h
              case hy4z1 => (refine Or.inl ⟨by rfl, ?_⟩; intro w hSw; (try dsimp only at hSw); go_simp; try with_reducible rfl)
              try simp only [Act.put, List.setIfInBounds_toArray, List.set_cons_zero, List.set_cons_succ]
              refine wpAnyH_take (i := 5) (oi := ?o5z1) (v := ?v5z1) ?hi5z1 (by kernel_rfl) (by kernel_rfl) ?hr5z1 ?hQ5z1 ?hy5z1 hHeld ?r5z1
              case hi5z1 => (simp only [List.getElem?_toArray, List.getElem?_cons_zero, List.getElem?_cons_succ]; rfl)
              case hr5z1 => kernel_rfl
              case hQ5z1 => exact fun _ _ _ h => h
              case hy5z1 => (refine Or.inl ⟨by rfl, ?_⟩; intro w hSw; (try dsimp only at hSw); go_simp; try with_reducible rfl)
              try simp only [Act.put, List.setIfInBounds_toArray, List.set_cons_zero, List.set_cons_succ]
              refine wpAnyH_take (i := 6) (oi := ?o6z1) (v := ?v6z1) ?hi6z1 (by kernel_rfl) (by kernel_rfl) ?hr6z1 ?hQ6z1 ?hy6z1 hHeld ?r6z1
              case hi6z1 => (simp only [List.getElem?_toArray, List.getElem?_cons_zero, List.getElem?_cons_succ]; rfl)
              case hr6z1 => kernel_rfl
              case hQ6z1 => exact fun _ _ _ h => h
              case hy6z1 => (refine Or.inl ⟨by rfl, ?_⟩; intro w hSw; (try dsimp only at hSw); go_simp; try with_reducible rfl)
              try simp only [Act.put, List.setIfInBounds_toArray, List.set_cons_zero, List.set_cons_succ]
              refine wpAnyH_take (i := 7) (oi := ?o7z1) (v := ?v7z1) ?hi7z1 (by kernel_rfl) (by kernel_rfl) ?hr7z1 ?hQ7z1 ?hy7z1 hHeld ?r7z1
              case hi7z1 => (simp only [List.getElem?_toArray, List.getElem?_cons_zero, List.getElem?_cons_succ]; rfl)
              case hr7z1 => kernel_rfl
              case hQ7z1 => exact fun _ _ _ h => h
              case hy7z1 => (refine Or.inl ⟨by rfl, ?_⟩; intro w hSw; (try dsimp only at hSw); go_simp; try with_reducible rfl)
              try simp only [Act.put, List.setIfInBounds_toArray, List.set_cons_zero, List.set_cons_succ]
              refine wpAnyH_take (i := 8) (oi := ?o8z1) (v := ?v8z1) ?hi8z1 (by kernel_rfl) (by kernel_rfl) ?hr8z1 ?hQ8z1 ?hy8z1 hHeld ?r8z1
              case hi8z1 => (simp only [List.getElem?_toArray, List.getElem?_cons_zero, List.getElem?_cons_succ]; rfl)
              case hr8z1 => kernel_rfl
              case hQ8z1 => exact fun _ _ _ h => h
              case hy8z1 => (refine Or.inl ⟨by rfl, ?_⟩; intro w hSw; (try dsimp only at hSw); go_simp; try with_reducible rfl)
              try simp only [Act.put, List.setIfInBounds_toArray, List.set_cons_zero, List.set_cons_succ]
              refine wpAnyH_take (i := 9) (oi := ?o9z1) (v := ?v9z1) ?hi9z1 (by kernel_rfl) (by kernel_rfl) ?hr9z1 ?hQ9z1 ?hy9z1 hHeld ?r9z1
              case hi9z1 => (simp only [List.getElem?_toArray, List.getElem?_cons_zero, List.getElem?_cons_succ]; rfl)
              case hr9z1 => kernel_rfl
              case hQ9z1 => exact fun _ _ _ h => h
              case hy9z1 => (refine Or.inl ⟨by rfl, ?_⟩; intro w hSw; (try dsimp only at hSw); go_simp; try with_reducible rfl)
              try simp only [Act.put, List.setIfInBounds_toArray, List.set_cons_zero, List.set_cons_succ]
              refine wpAnyH_take (i := 10) (oi := ?o10z1) (v := ?v10z1) ?hi10z1 (by kernel_rfl) (by kernel_rfl) ?hr10z1 ?hQ10z1 ?hy10z1 hHeld ?r10z1
              case hi10z1 => (simp only [List.getElem?_toArray, List.getElem?_cons_zero, List.getElem?_cons_succ]; rfl)
              case hr10z1 => kernel_rfl
              case hQ10z1 => exact fun _ _ _ h => h
              case hy10z1 => (refine Or.inl ⟨by rfl, ?_⟩; intro w hSw; (try dsimp only at hSw); go_simp; try with_reducible rfl)
              try simp only [Act.put, List.setIfInBounds_toArray, List.set_cons_zero, List.set_cons_succ]
              refine wpAnyH_take (i := 11) (oi := ?o11z1) (v := ?v11z1) ?hi11z1 (by kernel_rfl) (by kernel_rfl) ?hr11z1 ?hQ11z1 ?hy11z1 hHeld ?r11z1
              case hi11z1 => (simp only [List.getElem?_toArray, List.getElem?_cons_zero, List.getElem?_cons_succ]; rfl)
              case hr11z1 => kernel_rfl
              case hQ11z1 => exact fun _ _ _ h => h
              case hy11z1 => (refine Or.inl ⟨by rfl, ?_⟩; intro w hSw; (try dsimp only at hSw); go_simp; try with_reducible rfl)
              try simp only [Act.put, List.setIfInBounds_toArray, List.set_cons_zero, List.set_cons_succ]
              refine wpAnyH_take (i := 12) (oi := ?o12z1) (v := ?v12z1) ?hi12z1 (by kernel_rfl) (by kernel_rfl) ?hr12z1 ?hQ12z1 ?hy12z1 hHeld ?r12z1
              case hi12z1 => (simp only [List.getElem?_toArray, List.getElem?_cons_zero, List.getElem?_cons_succ]; rfl)
              case hr12z1 => kernel_rfl
              case hQ12z1 => exact fun _ _ _ h => h
              case hy12z1 => (refine Or.inl ⟨by rfl, ?_⟩; intro w hSw; (try dsimp only at hSw); go_simp; try with_reducible rfl)
              try simp only [Act.put, List.setIfInBounds_toArray, List.set_cons_zero, List.set_cons_succ]
              refine wpAnyH_ready (rs := [13]) (by kernel_rfl) (by simp) (AllReadyH.cons (o := ?o13z1) ?hi13z1 (fun K hK => ?r13z1) AllReadyH.nil)
              case hi13z1 => (simp only [List.getElem?_toArray, List.getElem?_cons_zero, List.getElem?_cons_succ]; rfl)
              go_simp
              refine hK.out _ _ (by exact s9) (fun hHeld => ?_)
              clear hK K
              try simp only [Act.put, List.setIfInBounds_toArray, List.set_cons_zero, List.set_cons_succ]
              refine wpAnyH_done (by kernel_rfl) ?_ _
              go_wp2_with fail
              go_roundw
              case rel => exact ⟨x + 1, updF F2 b x v, by omega, by omega, by go_num, S0.out.1, S0.out.2.1, S0.out.2.2⟩
              case measure => simp [intOf]; omega
        · obtain rfl : x = s * 512 + 512 := by omega
          have hxI : ¬ (((s * 512 + 512 : Nat) : Int) < ((s : Int) + 1) * 512) := by omega
          have HF2 := hid hF2; have HO2 := hid ho2; have HB2 := hid hb2
          clear hF2 ho2 hb2
          go_wp2_with fail
          go_roundw
          case rel => exact ⟨k + 1, F2, p :: ks, by omega, by omega, by go_num, by simp, by simp [HKL.out], fun y hy => by rcases List.mem_cons.1 hy with rfl | hy; exact HP.out; exact HKB.out y hy, mixF_cons hs8 HPE.out HF.out HF2.out, HO2.out, HB2.out⟩
          case measure => simp [intOf]; omega
    · have hbw := HB5.out.trans (hb.mono HB5.out.size)
      have HBW := hid hbw
      have HO := hid ho; have HB := hid hb; have HF := hid hF; have HKB := hid hkb; have HKL := hid hkl
      clear hbw ho hb hF hkb hkl
      have hnlt : ¬ (k < N3) ∨ (k < N3 ∧ ¬ (k < 40)) := by omega
      rcases hnlt with hn3 | ⟨hn3, hn40⟩
      · by_cases hk0 : k = 0
        · subst hk0
          have d0 : decide (0 < 0) = false := rfl
          go_wp2_with fail
          refine (awake06_any _).mono ?_
          rintro e w7 ⟨rfl, b7⟩
          have HF7 := hid (HBW.out.trans (b7.mono HBW.out.size))
          clear b7 d0
          go_wp2
          go_ret
          exact ⟨rfl, HF7.out⟩
        · have d0 : decide (0 < k) = true := decide_eq_true (by omega)
          cases hok : getOK (tabs (N + 1) F) with
          | true => as_aux_lemma =>
            have hB := whole_law HR.out HR2.out HNE.out ks (by intro e; have := HKL.out; rw [e] at this; simp at this; omega) (N + 1) (by rw [HN.out]) HKB.out nz F HF.out hok
            have hNN : N = N2 := by
              have := congrArg List.length hB
              rw [tabs_length, HPL2.out] at this
              omega
            have ho := HO.out
            rw [hB] at ho
            have cap6 := own_cap ho.row
            rw [HPL2.out] at cap6
            have GT := GetPut wr L6 c6 N2 E2 Q2 ims2 HN2.out HR2.out ⟨cap6.1, by have := cap6.2; simp only [maxLen] at this; omega⟩ ho.rd
            have HO2 := hid ho
            clear hB hok cap6 ho
            subst hNN
            go_wp2_with fail
            refine GT.mono ?_
            rintro e w7 ⟨b7, A7, c7, gs7, rfl, o7⟩
            clear GT
            have ba7 : Below w7.heap.size w7 (w7.alloc (.cells #[.int .i64 (E2 : Int), .int .i64 (Q2 : Int), .slice A7 N c7] 28)) := (Below.refl _ _).alloc (Nat.le_refl _) _
            have hG1 := heap_alloc_new w7 (.cells #[.int .i64 (E2 : Int), .int .i64 (Q2 : Int), .slice A7 N c7] 28)
            have b78 := b7.trans (ba7.mono b7.size)
            have r78 := (o7.below ba7).rd
            rw [show (ims2.map (·.1)).zip (ims2.map (·.2)) = ims2 by simp [List.zip_map']] at r78
            obtain ⟨w8, hw8⟩ : ∃ w8, w8 = w7.alloc (.cells #[.int .i64 (E2 : Int), .int .i64 (Q2 : Int), .slice A7 N c7] 28) := ⟨_, rfl⟩
            rw [← hw8] at hG1 b78 r78
            have hbw8 := HBW.out.trans (b78.mono HBW.out.size)
            have hb8 := HB.out.trans (b78.mono HB.out.size)
            have SG := SameGroup_any w8 (E2 : Int) (Q2 : Int) (E2 : Int) (Q2 : Int) A7 a2 c7 c2 N N ims2 ims2 HN2.out HN2.out (by have := HN2.out; omega) r78 (HG2.out.below hbw8)
            rw [show decide ((E2 : Int) = (E2 : Int) ∧ (Q2 : Int) = (Q2 : Int) ∧ ims2 = ims2) = true from decide_eq_true ⟨rfl, rfl, rfl⟩] at SG
            obtain ⟨q0, q1, q2⟩ := cells3 ((hb8.block _ (heap_in HRB5.out)).trans HRB5.out)
            obtain ⟨x0, x1, x2⟩ := cells3 hG1
            have HBW8 := hid hbw8; have HB8 := hid hb8; have HO8 := hid (HO2.out.below b78); have HW8 := hid hw8
            rw [hw8] at SG q0 q1 q2 x0 x1 x2
            clear hbw8 hb8 r78 b78 hG1 ba7 o7 b7 hw8
            go_wp2_with fail
            refine SG.mono ?_
            rw [← HW8.out]
            rintro e w9 ⟨rfl, b9⟩
            clear SG q0 q1 q2 x0 x1 x2
            have hb9 := HB8.out.trans (b9.mono HB8.out.size)
            have SL := SameLists_any w9 (some ⟨L6, 0, none⟩) (some ⟨L2, 0, none⟩) c6 cL2 (N + 1) (N + 1) (putB E2 Q2 ims2) (putB E2 Q2 ims2) HPL2.out.symm HPL2.out.symm (by have := HPL2.out; omega) (HO8.out.below b9).rd (O25.out.below hb9).rd
            rw [show decide (putB E2 Q2 ims2 = putB E2 Q2 ims2) = true from decide_eq_true rfl] at SL
            have HBW9 := hid (HBW8.out.trans (b9.mono HBW8.out.size))
            clear hb9 b9
            go_wp2_with fail
            refine SL.mono ?_
            rintro e w10 ⟨rfl, b10⟩
            clear SL
            have HBW10 := hid (HBW9.out.trans (b10.mono HBW9.out.size))
            clear b10
            go_wp2_with fail
            refine (awake06_any _).mono ?_
            rintro e w11 ⟨rfl, b11⟩
            have HF7 := hid (HBW10.out.trans (b11.mono HBW10.out.size))
            clear b11
            go_wp2
            go_ret
            exact ⟨rfl, HF7.out⟩
          | false => as_aux_lemma =>
            have cap6 := own_cap HO.out.row
            rw [tabs_length] at cap6
            have GT := GetU wr (some ⟨L6, 0, none⟩) (N + 1) c6 (tabs (N + 1) F) (by rw [tabs_length]) ⟨cap6.1, by have := cap6.2; simp only [maxLen] at this; omega⟩ (by omega) (fun l hl => by
              obtain ⟨i, hi, rfl⟩ := List.mem_map.1 hl
              rw [tab_length]
              omega) HO.out.rd
            have hge : getE (tabs (N + 1) F) = 80 := by simp [getE, hok]
            have HGE := hid hge
            clear hok cap6 hge
            go_wp2_with fail
            refine GT.mono ?_
            rintro e w7 ⟨b7, A7, n7, c7, rfl, hn7, hr7⟩
            clear GT hn7 hr7
            rw [HGE.out]
            generalize getEp (tabs (N + 1) F) = y1
            generalize getSq (tabs (N + 1) F) = y2
            have ba7 : Below w7.heap.size w7 (w7.alloc (.cells #[.int .i64 y1, .int .i64 y2, .slice A7 n7 c7] 28)) := (Below.refl _ _).alloc (Nat.le_refl _) _
            have hb8 := HBW.out.trans ((b7.trans (ba7.mono b7.size)).mono HBW.out.size)
            have HBW8 := hid hb8
            clear ba7 hb8 b7
            go_wp2_with fail
            refine (awake06_any _).mono ?_
            rintro e w11 ⟨rfl, b11⟩
            have HF7 := hid (HBW8.out.trans (b11.mono HBW8.out.size))
            clear b11
            go_wp2
            go_ret
            exact ⟨rfl, HF7.out⟩
      · by_cases hk0 : k = 0
        · exfalso
          omega
        · have d0 : decide (0 < k) = true := decide_eq_true (by omega)
          cases hok : getOK (tabs (N + 1) F) with
          | true => as_aux_lemma =>
            have hB := whole_law HR.out HR2.out HNE.out ks (by intro e; have := HKL.out; rw [e] at this; simp at this; omega) (N + 1) (by rw [HN.out]) HKB.out nz F HF.out hok
            have hNN : N = N2 := by
              have := congrArg List.length hB
              rw [tabs_length, HPL2.out] at this
              omega
            have ho := HO.out
            rw [hB] at ho
            have cap6 := own_cap ho.row
            rw [HPL2.out] at cap6
            have GT := GetPut wr L6 c6 N2 E2 Q2 ims2 HN2.out HR2.out ⟨cap6.1, by have := cap6.2; simp only [maxLen] at this; omega⟩ ho.rd
            have HO2 := hid ho
            clear hB hok cap6 ho
            subst hNN
            go_wp2_with fail
            refine GT.mono ?_
            rintro e w7 ⟨b7, A7, c7, gs7, rfl, o7⟩
            clear GT
            have ba7 : Below w7.heap.size w7 (w7.alloc (.cells #[.int .i64 (E2 : Int), .int .i64 (Q2 : Int), .slice A7 N c7] 28)) := (Below.refl _ _).alloc (Nat.le_refl _) _
            have hG1 := heap_alloc_new w7 (.cells #[.int .i64 (E2 : Int), .int .i64 (Q2 : Int), .slice A7 N c7] 28)
            have b78 := b7.trans (ba7.mono b7.size)
            have r78 := (o7.below ba7).rd
            rw [show (ims2.map (·.1)).zip (ims2.map (·.2)) = ims2 by simp [List.zip_map']] at r78
            obtain ⟨w8, hw8⟩ : ∃ w8, w8 = w7.alloc (.cells #[.int .i64 (E2 : Int), .int .i64 (Q2 : Int), .slice A7 N c7] 28) := ⟨_, rfl⟩
            rw [← hw8] at hG1 b78 r78
            have hbw8 := HBW.out.trans (b78.mono HBW.out.size)
            have hb8 := HB.out.trans (b78.mono HB.out.size)
            have SG := SameGroup_any w8 (E2 : Int) (Q2 : Int) (E2 : Int) (Q2 : Int) A7 a2 c7 c2 N N ims2 ims2 HN2.out HN2.out (by have := HN2.out; omega) r78 (HG2.out.below hbw8)
            rw [show decide ((E2 : Int) = (E2 : Int) ∧ (Q2 : Int) = (Q2 : Int) ∧ ims2 = ims2) = true from decide_eq_true ⟨rfl, rfl, rfl⟩] at SG
            obtain ⟨q0, q1, q2⟩ := cells3 ((hb8.block _ (heap_in HRB5.out)).trans HRB5.out)
            obtain ⟨x0, x1, x2⟩ := cells3 hG1
            have HBW8 := hid hbw8; have HB8 := hid hb8; have HO8 := hid (HO2.out.below b78); have HW8 := hid hw8
            rw [hw8] at SG q0 q1 q2 x0 x1 x2
            clear hbw8 hb8 r78 b78 hG1 ba7 o7 b7 hw8
            go_wp2_with fail
            refine SG.mono ?_
            rw [← HW8.out]
            rintro e w9 ⟨rfl, b9⟩
            clear SG q0 q1 q2 x0 x1 x2
            have hb9 := HB8.out.trans (b9.mono HB8.out.size)
            have SL := SameLists_any w9 (some ⟨L6, 0, none⟩) (some ⟨L2, 0, none⟩) c6 cL2 (N + 1) (N + 1) (putB E2 Q2 ims2) (putB E2 Q2 ims2) HPL2.out.symm HPL2.out.symm (by have := HPL2.out; omega) (HO8.out.below b9).rd (O25.out.below hb9).rd
            rw [show decide (putB E2 Q2 ims2 = putB E2 Q2 ims2) = true from decide_eq_true rfl] at SL
            have HBW9 := hid (HBW8.out.trans (b9.mono HBW8.out.size))
            clear hb9 b9
            go_wp2_with fail
            refine SL.mono ?_
            rintro e w10 ⟨rfl, b10⟩
            clear SL
            have HBW10 := hid (HBW9.out.trans (b10.mono HBW9.out.size))
            clear b10
            go_wp2_with fail
            refine (awake06_any _).mono ?_
            rintro e w11 ⟨rfl, b11⟩
            have HF7 := hid (HBW10.out.trans (b11.mono HBW10.out.size))
            clear b11
            go_wp2
            go_ret
            exact ⟨rfl, HF7.out⟩
          | false => as_aux_lemma =>
            have cap6 := own_cap HO.out.row
            rw [tabs_length] at cap6
            have GT := GetU wr (some ⟨L6, 0, none⟩) (N + 1) c6 (tabs (N + 1) F) (by rw [tabs_length]) ⟨cap6.1, by have := cap6.2; simp only [maxLen] at this; omega⟩ (by omega) (fun l hl => by
              obtain ⟨i, hi, rfl⟩ := List.mem_map.1 hl
              rw [tab_length]
              omega) HO.out.rd
            have hge : getE (tabs (N + 1) F) = 80 := by simp [getE, hok]
            have HGE := hid hge
            clear hok cap6 hge
            go_wp2_with fail
            refine GT.mono ?_
            rintro e w7 ⟨b7, A7, n7, c7, rfl, hn7, hr7⟩
            clear GT hn7 hr7
            rw [HGE.out]
            generalize getEp (tabs (N + 1) F) = y1
            generalize getSq (tabs (N + 1) F) = y2
            have ba7 : Below w7.heap.size w7 (w7.alloc (.cells #[.int .i64 y1, .int .i64 y2, .slice A7 n7 c7] 28)) := (Below.refl _ _).alloc (Nat.le_refl _) _
            have hb8 := HBW.out.trans ((b7.trans (ba7.mono b7.size)).mono HBW.out.size)
            have HBW8 := hid hb8
            clear ba7 hb8 b7
            go_wp2_with fail
            refine (awake06_any _).mono ?_
            rintro e w11 ⟨rfl, b11⟩
            have HF7 := hid (HBW8.out.trans (b11.mono HBW8.out.size))
            clear b11
            go_wp2
            go_ret
            exact ⟨rfl, HF7.out⟩
end Go.Proofs.Ytknhfaplddgnlaa
