/- RecordTells, the walk (printed by gen06p.py). -/
import Derived.Test.YtknhfaplddgnlaaRecAA
namespace Go.Proofs.Ytknhfaplddgnlaa
open Go.RowKit
set_option maxHeartbeats 1500000
set_option maxRecDepth 100000
set_option linter.unusedVariables false
set_option linter.unusedSimpArgs false

theorem tells_any (w : World) (ep seq : Int) (a : Option Addr) (N c : Nat) (ims : List Img) (hN : N = ims.length) (hg : RdG w a ims) (hgl : ∀ x ∈ ims, x.2.length ≤ 200000000000000)
    (a2 : Option Addr) (N2 c2 : Nat) (ls : List (List UInt8)) (hN2 : N2 = ls.length) (hc2 : N2 ≤ c2 ∧ c2 ≤ 9223372036854775807) (hr : RdLs w a2 ls) (hll : ∀ l ∈ ls, l.length ≤ 200000000000000) (epoch sq : Int) :
    Calls Try.prog 4 #[.agg #[.int .i64 ep, .int .i64 seq, .slice a N c], .slice a2 N2 c2, .int .i64 epoch, .int .i64 sq] w fun e w' => e = .returned (.bool true) ∧ Below w.heap.size w w' := by
  have hrow0 := heap_alloc_new w (.cells #[.int .i64 ep, .int .i64 seq, .slice a N c] 28)
  have hb0 : Below w.heap.size w (w.alloc (.cells #[.int .i64 ep, .int .i64 seq, .slice a N c] 28)) := (Below.refl _ _).alloc (Nat.le_refl _) _
  by_cases h1 : (40 : Int) < (N : Int)
  · clear hN hN2
    go_enter Try.func4, Try.ntmps4
    go_wp2_with fail
    refine (awake06_any _).mono ?_
    rintro e w1 ⟨rfl, b1⟩
    go_wp2
    go_ret
    exact ⟨rfl, hb0.trans (b1.mono hb0.size)⟩
  by_cases h2 : (40 : Int) < (N2 : Int)
  · clear hN hN2
    go_enter Try.func4, Try.ntmps4
    go_wp2_with fail
    refine (awake06_any _).mono ?_
    rintro e w1 ⟨rfl, b1⟩
    go_wp2
    go_ret
    exact ⟨rfl, hb0.trans (b1.mono hb0.size)⟩
  have hN40 : N ≤ 40 := by omega
  have hN240 : N2 ≤ 40 := by omega
  have hz0 : (w.alloc (.cells #[.int .i64 ep, .int .i64 seq, .slice a N c] 28)).heap.size = w.heap.size + 1 := by simp
  obtain ⟨w0, hw0⟩ : ∃ w0, w0 = w.alloc (.cells #[.int .i64 ep, .int .i64 seq, .slice a N c] 28) := ⟨_, rfl⟩
  obtain ⟨q0, q1, q2⟩ := cells3 hrow0
  rw [← hw0] at hb0 hrow0 hz0
  have CI := CopyImages_any w0 a c N ims hN (by omega) hgl (hg.below hb0)
  rw [hw0] at CI
  have HN := hid hN; have HN2 := hid hN2; have HW0 := hid hw0; have HG := hid hg; have HR := hid hr; have HLL := hid hll
  clear hN hN2 hw0 hg hgl hr hll
  go_enter Try.func4, Try.ntmps4
  go_wp2_with fail
  refine CI.mono ?_
  rw [← HW0.out]
  rintro e w1 ⟨A1, c1, av1, rfl, row1, own1, b1⟩
  clear CI q0 q1 q2
  have b01 := hb0.trans (b1.mono hb0.size)
  have g1 := own1.rdg HN.out row1
  have CL := CopyLists_any w1 a2 c2 N2 ls HN2.out (by have := HN2.out; omega) HLL.out (HR.out.below b01)
  have G1 := hid g1; have B01 := hid b01; have B1 := hid b1
  clear g1 b01 b1 row1 own1
  go_wp2_with fail
  refine CL.mono ?_
  rintro e w2 ⟨A2, c2', av2, rfl, row2, own2, b2⟩
  clear CL
  have R2 := hid row2; have O2 := hid own2
  have hrow2 := (b2.block _ (heap_in ((B1.out.block _ (heap_in hrow0)).trans hrow0))).trans ((B1.out.block _ (heap_in hrow0)).trans hrow0)
  have b02 := B01.out.trans (b2.mono B01.out.size)
  have g2 := G1.out.below b2
  have PT := PutU w2 ep seq A1 N c1 ims HN.out g2
  have hl2 := own2.rdl HN2.out row2
  have hcap2 := own_cap row2
  obtain ⟨q0, q1, q2⟩ := cells3 hrow2
  have HRW2 := hid hrow2; have G2 := hid g2; have B02 := hid b02; have L2 := hid hl2; have HC2 := hid hcap2
  have A2B := hid (fun b hb => (own_lt row2 b (own_img row2 hb)))
  clear hrow2 b02 b2 g2 hl2 hcap2 row2 own2
  go_wp2_with fail
  refine PT.mono ?_
  rintro e w3 ⟨b3, A3, n3, c3, rfl, hn3, r3⟩
  clear PT q0 q1 q2
  have hrow3 := (b3.block _ (heap_in HRW2.out)).trans HRW2.out
  have b03 := B02.out.trans (b3.mono B02.out.size)
  have RP := refPutU w3 ep seq a N c ims HN.out (HG.out.below b03)
  obtain ⟨q0, q1, q2⟩ := cells3 hrow3
  have HRW3 := hid hrow3; have G3 := hid (G2.out.below b3); have B03 := hid b03; have L3 := hid (L2.out.below b3); have R3 := hid r3; have HN3 := hid hn3
  have A3B := hid (fun b hb => Nat.lt_of_lt_of_le (A2B.out b hb) b3.size)
  have b23 := hid b3
  clear hrow3 b03 r3 hn3 b3
  go_wp2_with fail
  refine RP.mono ?_
  rintro e w4 ⟨b4, A4, n4, c4, rfl, hn4, r4⟩
  clear RP q0 q1 q2
  have hrow4 := (b4.block _ (heap_in HRW3.out)).trans HRW3.out
  have b04 := B03.out.trans (b4.mono B03.out.size)
  have hl4 := L3.out.below b4
  have GT := GetU w4 A2 N2 c2' ls HN2.out (by have := HC2.out; exact this) (by omega) HLL.out hl4
  have HRW4 := hid hrow4; have G4 := hid (G3.out.below b4); have B04 := hid b04; have L4 := hid hl4; have R4 := hid (R3.out.below b4); have R4' := hid r4; have HN4 := hid hn4
  clear hrow4 b04 hl4 r4 hn4 b4
  go_wp2_with fail
  refine GT.mono ?_
  rintro e w5 ⟨b5, A5, n5, c5, rfl, hn5, r5⟩
  clear GT
  have ba5 : Below w5.heap.size w5 (w5.alloc (.cells #[.int .i64 (getEp ls), .int .i64 (getSq ls), .slice A5 n5 c5] 28)) := (Below.refl _ _).alloc (Nat.le_refl _) _
  have hG1 := heap_alloc_new w5 (.cells #[.int .i64 (getEp ls), .int .i64 (getSq ls), .slice A5 n5 c5] 28)
  have b45 := b5.trans (ba5.mono b5.size)
  obtain ⟨w6, hw6⟩ : ∃ w6, w6 = w5.alloc (.cells #[.int .i64 (getEp ls), .int .i64 (getSq ls), .slice A5 n5 c5] 28) := ⟨_, rfl⟩
  have r56 : RdG w6 A5 (getIms ls) := by rw [hw6]; exact r5.below ba5
  rw [← hw6] at hG1 b45
  have b06 := B04.out.trans (b45.mono B04.out.size)
  have RG := refGetU w6 a2 N2 c2 ls HN2.out hc2 (by omega) HLL.out (HR.out.below b06)
  have HRW6 := hid ((b45.block _ (heap_in HRW4.out)).trans HRW4.out); have G6 := hid (G4.out.below b45); have B06 := hid b06; have L6 := hid (L4.out.below b45); have R6 := hid (R4.out.below b45); have R6' := hid (R4'.out.below b45); have HN5 := hid hn5; have R56 := hid r56
  obtain ⟨g1, hg1⟩ : ∃ g1, g1 = w5.heap.size := ⟨_, rfl⟩
  rw [← hg1] at hG1
  have HG1 := hid hG1; have HGG1 := hid hg1; have HW6 := hid hw6
  rw [hw6] at RG
  clear hG1 hg1 hw6 b45 ba5 b06 r56 r5 hn5 b5
  go_wp2_with fail
  refine RG.mono ?_
  rw [← HW6.out, ← HGG1.out]
  rintro e w7 ⟨b7, A7, n7, c7, rfl, hn7, r7⟩
  clear RG
  have ba7 : Below w7.heap.size w7 (w7.alloc (.cells #[.int .i64 (getEp ls), .int .i64 (getSq ls), .slice A7 n7 c7] 28)) := (Below.refl _ _).alloc (Nat.le_refl _) _
  have hG2 := heap_alloc_new w7 (.cells #[.int .i64 (getEp ls), .int .i64 (getSq ls), .slice A7 n7 c7] 28)
  have b67 := b7.trans (ba7.mono b7.size)
  obtain ⟨w8, hw8⟩ : ∃ w8, w8 = w7.alloc (.cells #[.int .i64 (getEp ls), .int .i64 (getSq ls), .slice A7 n7 c7] 28) := ⟨_, rfl⟩
  have r78 : RdG w8 A7 (getIms ls) := by rw [hw8]; exact r7.below ba7
  rw [← hw8] at hG2 b67
  have b08 := B06.out.trans (b67.mono B06.out.size)
  have hG18 := (b67.block _ (heap_in HG1.out)).trans HG1.out
  have SL := SameLists_any w8 A3 A4 c3 c4 n3 n4 (putLs ep seq ims) (putLs ep seq ims) HN3.out HN4.out (by have := putLs_length ep seq ims; omega) (R6.out.below b67) (R6'.out.below b67)
  rw [show decide (putLs ep seq ims = putLs ep seq ims) = true from decide_eq_true rfl] at SL
  have HRW8 := hid ((b67.block _ (heap_in HRW6.out)).trans HRW6.out); have G8 := hid (G6.out.below b67); have B08 := hid b08; have L8 := hid (L6.out.below b67); have R58 := hid (R56.out.below b67); have R78 := hid r78; have HN7 := hid hn7
  obtain ⟨g2, hg2⟩ : ∃ g2, g2 = w7.heap.size := ⟨_, rfl⟩
  rw [← hg2] at hG2
  have HG2 := hid hG2; have HGG2 := hid hg2; have HW8 := hid hw8; have HG18 := hid hG18
  rw [hw8] at SL
  clear hG2 hg2 hw8 b67 ba7 b08 r78 r7 hn7 b7 hG18
  generalize hpe : putE ep seq ims = pe at *
  generalize hge : getE ls = ge at *
  have p0 : (pe == pe) = true := by simp
  have p1 : (ge == ge) = true := by simp
  clear hpe hge
  go_wp2_with fail
  refine SL.mono ?_
  rw [← HW8.out, ← HGG2.out]
  rintro e w9 ⟨rfl, b9⟩
  clear SL
  have SG := SameGroup_any w9 (getEp ls) (getSq ls) (getEp ls) (getSq ls) A5 A7 c5 c7 n5 n7 (getIms ls) (getIms ls) HN5.out HN7.out (by have := getIms_length ls; omega) (R58.out.below b9) (R78.out.below b9)
  rw [show decide (getEp ls = getEp ls ∧ getSq ls = getSq ls ∧ getIms ls = getIms ls) = true from decide_eq_true ⟨rfl, rfl, rfl⟩] at SG
  obtain ⟨x0, x1, x2⟩ := cells3 ((b9.block _ (heap_in HG18.out)).trans HG18.out)
  obtain ⟨y0, y1, y2⟩ := cells3 ((b9.block _ (heap_in HG2.out)).trans HG2.out)
  have B9 := hid b9
  clear b9
  go_wp2_with fail
  refine SG.mono ?_
  rintro e w10 ⟨rfl, b10⟩
  clear SG x0 x1 x2 y0 y1 y2
  have b810 := B9.out.trans (b10.mono B9.out.size)
  have HRW := hid ((b810.block _ (heap_in HRW8.out)).trans HRW8.out); have GG := hid (G8.out.below b810); have BB := hid (B08.out.trans (b810.mono B08.out.size)); have LL := hid (L8.out.below b810)
  clear b810 b10 B9 HG18 HG2 R78 R58 G8 L8 HRW8 HW8 HGG2 HN5 HN7 R56 R6 R6' L6 G6 HRW6 HGG1 HW6 HG1 HN3 HN4 R3 R4 R4' G4 L4 HRW4 G3 L3 HRW3 HRW2 G2 L2 p0 p1
  go_wp2_with fail
  go_loopw [19] (fun i wr => ∃ k : Nat, k ≤ N2 ∧ i = .int .i64 k ∧ Below w10.heap.size w10 wr) (fun i _ => N2 - (intOf i).toNat)
  case atStart => exact ⟨0, Nat.zero_le _, rfl, Below.refl _ _⟩
  case round => as_aux_lemma =>
    obtain ⟨k, hk, rfl, hb⟩ := hrel
    have hbw := BB.out.trans (hb.mono BB.out.size)
    by_cases hlt : k < N2
    · obtain ⟨l, hl⟩ : ∃ l, ls[k]? = some l := ⟨ls[k]'(by have := HN2.out; omega), List.getElem?_eq_getElem _⟩
      have hl5 := HLL.out l (List.mem_of_getElem? hl)
      obtain ⟨ba, oa, P, cp, rfl, x0, x1, x2⟩ := (LL.out.below hb) k l hl
      obtain ⟨bb, ob, A, cl, rfl, y0, y1, y2⟩ := (HR.out.below hbw) k l hl
      obtain ⟨M, hM⟩ : ∃ M, M = l.length := ⟨_, rfl⟩
      rw [← hM] at x0 y0
      have HD := Head_any wr P M cp l hM hl5 x2 x1
      have HM := hid hM; have HLB := hid hl5; have HCB := hid y2; have HCP := hid x2
      have x0d := x0
      have y0d := y0
      generalize hE : hdE l = E at *
      generalize hQ : hdQ l = Q at *
      generalize hn : hdN l = n at *
      generalize hok : isHead l = ok at *
      have HE := hid hE; have HQ := hid hQ; have Hn := hid hn; have HOK := hid hok
      have HB := hid hb; have HBW := hid hbw; have X1 := hid x1; have Y1 := hid y1
      clear hE hQ hn hok hM hl hl5 x1 x2 y1 y2 hb hbw x0d y0d
      go_wp2_with fail
      refine HD.mono ?_
      rintro e w11 ⟨rfl, b11⟩
      clear HD
      have x0 := cell_below b11 x0
      have y0 := cell_below b11 y0
      have RD := refHeadF_any w11 A M cl l HM.out HCB.out (Y1.out.below b11)
      rw [HE.out, HQ.out, Hn.out, HOK.out] at RD
      have B11 := hid b11
      clear b11
      go_wp2_with fail
      refine RD.mono ?_
      rintro e w12 ⟨rfl, b12⟩
      clear RD
      have b1012 := B11.out.trans (b12.mono B11.out.size)
      have hd : Below w12.heap.size w12 w12.drew := below_drw (Below.refl _ _)
      have sX : w12.drew.cell? ⟨ba, oa + k, none⟩ = some (.slice P M cp) ∧ w12.drew.cell? ⟨bb, ob + k, none⟩ = some (.slice A M cl) := ⟨cell_below hd (cell_below b12 x0), cell_below hd (cell_below b12 y0)⟩
      have HRP := hid ((X1.out.below b1012).below hd)
      have HRB := hid ((Y1.out.below b1012).below hd)
      have ST1 := Stamped_any w12.drew P cp M l HM.out HCP.out HRP.out epoch sq
      obtain ⟨s1, hs1⟩ : ∃ s1, stmpD l epoch sq = s1 := ⟨_, rfl⟩
      obtain ⟨s2, hs2⟩ : ∃ s2, stmpD l (E : Int) (Q : Int) = s2 := ⟨_, rfl⟩
      rw [hs1] at ST1
      have HY1 := hid hs1; have HY2 := hid hs2
      have b1012d := b1012.trans (hd.mono b1012.size)
      have BF := hid b1012d
      clear hs1 hs2 b1012 b12 hd x0 y0 b1012d
      have v1 : ((E : Int) != (E : Int)) = false := by simp
      have v2 : ((Q : Int) != (Q : Int)) = false := by simp
      have v3 : ((n : Int) != (n : Int)) = false := by simp
      have v4 : (ok != ok) = false := by simp
      have v5 : (s1 != s1) = false := by simp
      have v6 : (s2 != s2) = false := by simp
      go_wp2_with fail
      refine wp_region_held_drew (S := fun W1 => W1.cell? ⟨ba, oa + k, none⟩ = some (.slice P M cp) ∧ W1.cell? ⟨bb, ob + k, none⟩ = some (.slice A M cl)) (by kernel_rfl) (by exact sX) (fun hHeld => ?_)
      refine wpAnyH_take (i := 0) (oi := ?o0z1) (v := ?v0z1) ?hi0z1 (by kernel_rfl) (by kernel_rfl) ?hr0z1 ?hQ0z1 ?hy0z1 hHeld ?r0z1
      case hi0z1 => (simp only [List.getElem?_toArray, List.getElem?_cons_zero, List.getElem?_cons_succ]; rfl)
      case hr0z1 => kernel_rfl
      case hQ0z1 => exact fun _ _ _ h => h
      case hy0z1 => (refine Or.inl ⟨by rfl, ?_⟩; intro w hSw; (try dsimp only at hSw); go_simp; try with_reducible rfl)
      try simp only [Act.put, List.setIfInBounds_toArray, List.set_cons_zero, List.set_cons_succ]
      refine wpAnyH_take (i := 1) (oi := ?o1z1) (v := ?v1z1) ?hi1z1 (by kernel_rfl) (by kernel_rfl) ?hr1z1 ?hQ1z1 ?hy1z1 hHeld ?r1z1
      case hi1z1 => (simp only [List.getElem?_toArray, List.getElem?_cons_zero, List.getElem?_cons_succ]; rfl)
      case hr1z1 => kernel_rfl
      case hQ1z1 => exact fun _ _ _ h => h
      case hy1z1 => (refine Or.inl ⟨by rfl, ?_⟩; intro w hSw; (try dsimp only at hSw); go_simp; try with_reducible rfl)
      try simp only [Act.put, List.setIfInBounds_toArray, List.set_cons_zero, List.set_cons_succ]
      refine wpAnyH_take (i := 2) (oi := ?o2z1) (v := ?v2z1) ?hi2z1 (by kernel_rfl) (by kernel_rfl) ?hr2z1 ?hQ2z1 ?hy2z1 hHeld ?r2z1
      case hi2z1 => (simp only [List.getElem?_toArray, List.getElem?_cons_zero, List.getElem?_cons_succ]; rfl)
      case hr2z1 => kernel_rfl
      case hQ2z1 => exact fun _ _ _ h => h
      case hy2z1 => (refine Or.inl ⟨by rfl, ?_⟩; intro w hSw; (try dsimp only at hSw); go_simp; try with_reducible rfl)
      try simp only [Act.put, List.setIfInBounds_toArray, List.set_cons_zero, List.set_cons_succ]
      refine wpAnyH_take (i := 3) (oi := ?o3z1) (v := ?v3z1) ?hi3z1 (by kernel_rfl) (by kernel_rfl) ?hr3z1 ?hQ3z1 ?hy3z1 hHeld ?r3z1
      case hi3z1 => (simp only [List.getElem?_toArray, List.getElem?_cons_zero, List.getElem?_cons_succ]; rfl)
      case hr3z1 => kernel_rfl
      case hQ3z1 => exact fun _ _ _ h => h
      case hy3z1 => (refine Or.inl ⟨by rfl, ?_⟩; intro w hSw; (try dsimp only at hSw); go_simp; try with_reducible rfl)
      try simp only [Act.put, List.setIfInBounds_toArray, List.set_cons_zero, List.set_cons_succ]
      refine wpAnyH_take (i := 4) (oi := ?o4z1) (v := ?v4z1) ?hi4z1 (by kernel_rfl) (by kernel_rfl) ?hr4z1 ?hQ4z1 ?hy4z1 hHeld ?r4z1
      case hi4z1 => (simp only [List.getElem?_toArray, List.getElem?_cons_zero, List.getElem?_cons_succ]; rfl)
      case hr4z1 => kernel_rfl
      case hQ4z1 => exact fun _ _ _ h => h
      case hy4z1 => (refine Or.inl ⟨by rfl, ?_⟩; intro w hSw; (try dsimp only at hSw); go_simp; try with_reducible rfl)
      try simp only [Act.put, List.setIfInBounds_toArray, List.set_cons_zero, List.set_cons_succ]
      refine wpAnyH_take (i := 5) (oi := ?o5z1) (v := ?v5z1) ?hi5z1 (by kernel_rfl) (by kernel_rfl) ?hr5z1 ?hQ5z1 ?hy5z1 hHeld ?r5z1
      case hi5z1 => (simp only [List.getElem?_toArray, List.getElem?_cons_zero, List.getElem?_cons_succ]; rfl)
      case hr5z1 => kernel_rfl
      case hQ5z1 => exact fun _ _ _ h => h
      case hy5z1 => (refine Or.inl ⟨by rfl, ?_⟩; intro w hSw; (try dsimp only at hSw); go_simp; try with_reducible rfl)
      try simp only [Act.put, List.setIfInBounds_toArray, List.set_cons_zero, List.set_cons_succ]
      refine wpAnyH_take (i := 6) (oi := ?o6z1) (v := ?v6z1) ?hi6z1 (by kernel_rfl) (by kernel_rfl) ?hr6z1 ?hQ6z1 ?hy6z1 hHeld ?r6z1
      case hi6z1 => (simp only [List.getElem?_toArray, List.getElem?_cons_zero, List.getElem?_cons_succ]; rfl)
      case hr6z1 => kernel_rfl
      case hQ6z1 => exact fun _ _ _ h => h
      case hy6z1 => (refine Or.inl ⟨by rfl, ?_⟩; intro w hSw; (try dsimp only at hSw); go_simp; try with_reducible rfl)
      try simp only [Act.put, List.setIfInBounds_toArray, List.set_cons_zero, List.set_cons_succ]
      refine wpAnyH_take (i := 7) (oi := ?o7z1) (v := ?v7z1) ?hi7z1 (by kernel_rfl) (by kernel_rfl) ?hr7z1 ?hQ7z1 ?hy7z1 hHeld ?r7z1
      case hi7z1 => (simp only [List.getElem?_toArray, List.getElem?_cons_zero, List.getElem?_cons_succ]; rfl)
      case hr7z1 => kernel_rfl
      case hQ7z1 => exact fun _ _ _ h => h
      case hy7z1 => (refine Or.inl ⟨by rfl, ?_⟩; intro w hSw; (try dsimp only at hSw); go_simp; try with_reducible rfl)
      try simp only [Act.put, List.setIfInBounds_toArray, List.set_cons_zero, List.set_cons_succ]
      refine wpAnyH_take (i := 8) (oi := ?o8z1) (v := ?v8z1) ?hi8z1 (by kernel_rfl) (by kernel_rfl) ?hr8z1 ?hQ8z1 ?hy8z1 hHeld ?r8z1
      case hi8z1 => (simp only [List.getElem?_toArray, List.getElem?_cons_zero, List.getElem?_cons_succ]; rfl)
      case hr8z1 => kernel_rfl
      case hQ8z1 => exact fun _ _ _ h => h
      case hy8z1 => (refine Or.inl ⟨by rfl, ?_⟩; intro w hSw; (try dsimp only at hSw); go_simp; try with_reducible rfl)
      try simp only [Act.put, List.setIfInBounds_toArray, List.set_cons_zero, List.set_cons_succ]
      refine wpAnyH_take (i := 9) (oi := ?o9z1) (v := ?v9z1) ?hi9z1 (by kernel_rfl) (by kernel_rfl) ?hr9z1 ?hQ9z1 ?hy9z1 hHeld ?r9z1
      case hi9z1 => (simp only [List.getElem?_toArray, List.getElem?_cons_zero, List.getElem?_cons_succ]; rfl)
      case hr9z1 => kernel_rfl
      case hQ9z1 => exact fun _ _ _ h => h
      case hy9z1 => (refine Or.inl ⟨by rfl, ?_⟩; intro w hSw; (try dsimp only at hSw); go_simp; try with_reducible rfl)
      try simp only [Act.put, List.setIfInBounds_toArray, List.set_cons_zero, List.set_cons_succ]
      refine wpAnyH_take (i := 10) (oi := ?o10z1) (v := ?v10z1) ?hi10z1 (by kernel_rfl) (by kernel_rfl) ?hr10z1 ?hQ10z1 ?hy10z1 hHeld ?r10z1
      case hi10z1 => (simp only [List.getElem?_toArray, List.getElem?_cons_zero, List.getElem?_cons_succ]; rfl)
      case hr10z1 => kernel_rfl
      case hQ10z1 => exact fun _ _ _ h => h
      case hy10z1 => (refine Or.inl ⟨by rfl, ?_⟩; intro w hSw; (try dsimp only at hSw); go_simp; try with_reducible rfl)
      try simp only [Act.put, List.setIfInBounds_toArray, List.set_cons_zero, List.set_cons_succ]
      refine wpAnyH_take (i := 11) (oi := ?o11z1) (v := ?v11z1) ?hi11z1 (by kernel_rfl) (by kernel_rfl) ?hr11z1 ?hQ11z1 ?hy11z1 hHeld ?r11z1
      case hi11z1 => (simp only [List.getElem?_toArray, List.getElem?_cons_zero, List.getElem?_cons_succ]; rfl)
      case hr11z1 => kernel_rfl
      case hQ11z1 => exact fun _ _ _ h => h
      case hy11z1 => (refine Or.inl ⟨by rfl, ?_⟩; intro w hSw; (try dsimp only at hSw); go_simp; try with_reducible rfl)
      try simp only [Act.put, List.setIfInBounds_toArray, List.set_cons_zero, List.set_cons_succ]
      refine wpAnyH_take (i := 12) (oi := ?o12z1) (v := ?v12z1) ?hi12z1 (by kernel_rfl) (by kernel_rfl) ?hr12z1 ?hQ12z1 ?hy12z1 hHeld ?r12z1
      case hi12z1 => (simp only [List.getElem?_toArray, List.getElem?_cons_zero, List.getElem?_cons_succ]; rfl)
      case hr12z1 => kernel_rfl
      case hQ12z1 => exact fun _ _ _ h => h
      case hy12z1 => (refine Or.inl ⟨by rfl, ?_⟩; intro w hSw; (try dsimp only at hSw); go_simp; try with_reducible rfl)
      try simp only [Act.put, List.setIfInBounds_toArray, List.set_cons_zero, List.set_cons_succ]
      refine wpAnyH_take (i := 13) (oi := ?o13z1) (v := ?v13z1) ?hi13z1 (by kernel_rfl) (by kernel_rfl) ?hr13z1 ?hQ13z1 ?hy13z1 hHeld ?r13z1
      case hi13z1 => (simp only [List.getElem?_toArray, List.getElem?_cons_zero, List.getElem?_cons_succ]; rfl)
      case hr13z1 => kernel_rfl
      case hQ13z1 => exact fun _ _ _ h => h
      case hy13z1 => (refine Or.inl ⟨by rfl, ?_⟩; intro w hSw; (try dsimp only at hSw); go_simp; try with_reducible rfl)
      try simp only [Act.put, List.setIfInBounds_toArray, List.set_cons_zero, List.set_cons_succ]
      refine wpAnyH_take (i := 14) (oi := ?o14z1) (v := ?v14z1) ?hi14z1 (by kernel_rfl) (by kernel_rfl) ?hr14z1 ?hQ14z1 ?hy14z1 hHeld ?r14z1
      case hi14z1 => (simp only [List.getElem?_toArray, List.getElem?_cons_zero, List.getElem?_cons_succ]; rfl)
      case hr14z1 => kernel_rfl
      case hQ14z1 => exact fun _ _ _ h => h
      case hy14z1 => (refine Or.inl ⟨by rfl, ?_⟩; intro w hSw; (try dsimp only at hSw); go_simp; try with_reducible rfl)
      try simp only [Act.put, List.setIfInBounds_toArray, List.set_cons_zero, List.set_cons_succ]
      refine wpAnyH_take (i := 15) (oi := ?o15z1) (v := ?v15z1) ?hi15z1 (by kernel_rfl) (by kernel_rfl) ?hr15z1 ?hQ15z1 ?hy15z1 hHeld ?r15z1
      case hi15z1 => (simp only [List.getElem?_toArray, List.getElem?_cons_zero, List.getElem?_cons_succ]; rfl)
      case hr15z1 => kernel_rfl
      case hQ15z1 => exact fun _ _ _ h => h
      case hy15z1 => (refine Or.inl ⟨by rfl, ?_⟩; intro w hSw; (try dsimp only at hSw); go_simp; try with_reducible rfl)
      try simp only [Act.put, List.setIfInBounds_toArray, List.set_cons_zero, List.set_cons_succ]
      refine wpAnyH_take (i := 16) (oi := ?o16z1) (v := ?v16z1) ?hi16z1 (by kernel_rfl) (by kernel_rfl) ?hr16z1 ?hQ16z1 ?hy16z1 hHeld ?r16z1
      case hi16z1 => (simp only [List.getElem?_toArray, List.getElem?_cons_zero, List.getElem?_cons_succ]; rfl)
      case hr16z1 => kernel_rfl
      case hQ16z1 => exact fun _ _ _ h => h
      case hy16z1 => (refine Or.inl ⟨by rfl, ?_⟩; intro w hSw; (try dsimp only at hSw); go_simp; try with_reducible rfl)
      try simp only [Act.put, List.setIfInBounds_toArray, List.set_cons_zero, List.set_cons_succ]
      refine wpAnyH_take (i := 17) (oi := ?o17z1) (v := ?v17z1) ?hi17z1 (by kernel_rfl) (by kernel_rfl) ?hr17z1 ?hQ17z1 ?hy17z1 hHeld ?r17z1
      case hi17z1 => (simp only [List.getElem?_toArray, List.getElem?_cons_zero, List.getElem?_cons_succ]; rfl)
      case hr17z1 => kernel_rfl
      case hQ17z1 => exact fun _ _ _ h => h
      case hy17z1 => (refine Or.inl ⟨by rfl, ?_⟩; intro w hSw; (try dsimp only at hSw); go_simp; try with_reducible rfl)
      try simp only [Act.put, List.setIfInBounds_toArray, List.set_cons_zero, List.set_cons_succ]
      refine wpAnyH_take (i := 18) (oi := ?o18z1) (v := ?v18z1) ?hi18z1 (by kernel_rfl) (by kernel_rfl) ?hr18z1 ?hQ18z1 ?hy18z1 hHeld ?r18z1
      case hi18z1 => (simp only [List.getElem?_toArray, List.getElem?_cons_zero, List.getElem?_cons_succ]; rfl)
      case hr18z1 => kernel_rfl
      case hQ18z1 => exact fun _ _ _ h => h
      case hy18z1 => (refine Or.inl ⟨by rfl, ?_⟩; intro w hSw; (try dsimp only at hSw); go_simp; try with_reducible rfl)
      try simp only [Act.put, List.setIfInBounds_toArray, List.set_cons_zero, List.set_cons_succ]
      refine wpAnyH_take (i := 19) (oi := ?o19z1) (v := ?v19z1) ?hi19z1 (by kernel_rfl) (by kernel_rfl) ?hr19z1 ?hQ19z1 ?hy19z1 hHeld ?r19z1
      case hi19z1 => (simp only [List.getElem?_toArray, List.getElem?_cons_zero, List.getElem?_cons_succ]; rfl)
      case hr19z1 => kernel_rfl
      case hQ19z1 => exact fun _ _ _ h => h
      case hy19z1 => (refine Or.inl ⟨by rfl, ?_⟩; intro w hSw; (try dsimp only at hSw); go_simp; try with_reducible rfl)
      try simp only [Act.put, List.setIfInBounds_toArray, List.set_cons_zero, List.set_cons_succ]
      refine wpAnyH_take (i := 20) (oi := ?o20z1) (v := ?v20z1) ?hi20z1 (by kernel_rfl) (by kernel_rfl) ?hr20z1 ?hQ20z1 ?hy20z1 hHeld ?r20z1
      case hi20z1 => (simp only [List.getElem?_toArray, List.getElem?_cons_zero, List.getElem?_cons_succ]; rfl)
      case hr20z1 => kernel_rfl
      case hQ20z1 => exact fun _ _ _ h => h
      case hy20z1 => (refine Or.inl ⟨by rfl, ?_⟩; intro w hSw; (try dsimp only at hSw); go_simp; try with_reducible rfl)
      try simp only [Act.put, List.setIfInBounds_toArray, List.set_cons_zero, List.set_cons_succ]
      refine wpAnyH_take (i := 21) (oi := ?o21z1) (v := ?v21z1) ?hi21z1 (by kernel_rfl) (by kernel_rfl) ?hr21z1 ?hQ21z1 ?hy21z1 hHeld ?r21z1
      case hi21z1 => (simp only [List.getElem?_toArray, List.getElem?_cons_zero, List.getElem?_cons_succ]; rfl)
      case hr21z1 => kernel_rfl
      case hQ21z1 => exact fun _ _ _ h => h
      case hy21z1 => (refine Or.inl ⟨by rfl, ?_⟩; intro w hSw; (try dsimp only at hSw); go_simp; try with_reducible rfl)
      try simp only [Act.put, List.setIfInBounds_toArray, List.set_cons_zero, List.set_cons_succ]
      refine wpAnyH_take (i := 22) (oi := ?o22z1) (v := ?v22z1) ?hi22z1 (by kernel_rfl) (by kernel_rfl) ?hr22z1 ?hQ22z1 ?hy22z1 hHeld ?r22z1
      case hi22z1 => (simp only [List.getElem?_toArray, List.getElem?_cons_zero, List.getElem?_cons_succ]; rfl)
      case hr22z1 => kernel_rfl
      case hQ22z1 => exact fun _ _ _ h => h
      case hy22z1 => (refine Or.inl ⟨by rfl, ?_⟩; intro w hSw; (try dsimp only at hSw); go_simp; try with_reducible rfl)
      try simp only [Act.put, List.setIfInBounds_toArray, List.set_cons_zero, List.set_cons_succ]
      refine wpAnyH_take (i := 23) (oi := ?o23z1) (v := ?v23z1) ?hi23z1 (by kernel_rfl) (by kernel_rfl) ?hr23z1 ?hQ23z1 ?hy23z1 hHeld ?r23z1
      case hi23z1 => (simp only [List.getElem?_toArray, List.getElem?_cons_zero, List.getElem?_cons_succ]; rfl)
      case hr23z1 => kernel_rfl
      case hQ23z1 => exact fun _ _ _ h => h
      case hy23z1 => (refine Or.inl ⟨by rfl, ?_⟩; intro w hSw; (try dsimp only at hSw); go_simp; try with_reducible rfl)
      try simp only [Act.put, List.setIfInBounds_toArray, List.set_cons_zero, List.set_cons_succ]
      refine wpAnyH_take (i := 24) (oi := ?o24z1) (v := ?v24z1) ?hi24z1 (by kernel_rfl) (by kernel_rfl) ?hr24z1 ?hQ24z1 ?hy24z1 hHeld ?r24z1
      case hi24z1 => (simp only [List.getElem?_toArray, List.getElem?_cons_zero, List.getElem?_cons_succ]; rfl)
      case hr24z1 => kernel_rfl
      case hQ24z1 => exact fun _ _ _ h => h
      case hy24z1 => (refine Or.inl ⟨by rfl, ?_⟩; intro w hSw; (try dsimp only at hSw); go_simp; try with_reducible rfl)
      try simp only [Act.put, List.setIfInBounds_toArray, List.set_cons_zero, List.set_cons_succ]
      refine wpAnyH_take (i := 26) (oi := ?o26z1) (v := ?v26z1) ?hi26z1 (by kernel_rfl) (by kernel_rfl) ?hr26z1 ?hQ26z1 ?hy26z1 hHeld ?r26z1
      case hi26z1 => (simp only [List.getElem?_toArray, List.getElem?_cons_zero, List.getElem?_cons_succ]; rfl)
      case hr26z1 => kernel_rfl
      case hQ26z1 => exact fun _ _ _ h => h
      case hy26z1 => (refine Or.inl ⟨by rfl, ?_⟩; intro w hSw; (try dsimp only at hSw); go_simp; try with_reducible rfl)
      try simp only [Act.put, List.setIfInBounds_toArray, List.set_cons_zero, List.set_cons_succ]
      refine wpAnyH_take (i := 27) (oi := ?o27z1) (v := ?v27z1) ?hi27z1 (by kernel_rfl) (by kernel_rfl) ?hr27z1 ?hQ27z1 ?hy27z1 hHeld ?r27z1
      case hi27z1 => (simp only [List.getElem?_toArray, List.getElem?_cons_zero, List.getElem?_cons_succ]; rfl)
      case hr27z1 => kernel_rfl
      case hQ27z1 => exact fun _ _ _ h => h
      case hy27z1 => (refine Or.inl ⟨by rfl, ?_⟩; intro w hSw; (try dsimp only at hSw); go_simp; try with_reducible rfl)
      try simp only [Act.put, List.setIfInBounds_toArray, List.set_cons_zero, List.set_cons_succ]
      refine wpAnyH_take (i := 28) (oi := ?o28z1) (v := ?v28z1) ?hi28z1 (by kernel_rfl) (by kernel_rfl) ?hr28z1 ?hQ28z1 ?hy28z1 hHeld ?r28z1
      case hi28z1 => (simp only [List.getElem?_toArray, List.getElem?_cons_zero, List.getElem?_cons_succ]; rfl)
      case hr28z1 => kernel_rfl
      case hQ28z1 => exact fun _ _ _ h => h
      case hy28z1 => (refine Or.inl ⟨by rfl, ?_⟩; intro w hSw; (try dsimp only at hSw); go_simp; try with_reducible rfl)
      try simp only [Act.put, List.setIfInBounds_toArray, List.set_cons_zero, List.set_cons_succ]
      refine wpAnyH_take (i := 29) (oi := ?o29z1) (v := ?v29z1) ?hi29z1 (by kernel_rfl) (by kernel_rfl) ?hr29z1 ?hQ29z1 ?hy29z1 hHeld ?r29z1
      case hi29z1 => (simp only [List.getElem?_toArray, List.getElem?_cons_zero, List.getElem?_cons_succ]; rfl)
      case hr29z1 => kernel_rfl
      case hQ29z1 => exact fun _ _ _ h => h
      case hy29z1 => (refine Or.inl ⟨by rfl, ?_⟩; intro w hSw; (try dsimp only at hSw); go_simp; try with_reducible rfl)
      try simp only [Act.put, List.setIfInBounds_toArray, List.set_cons_zero, List.set_cons_succ]
      refine wpAnyH_take (i := 30) (oi := ?o30z1) (v := ?v30z1) ?hi30z1 (by kernel_rfl) (by kernel_rfl) ?hr30z1 ?hQ30z1 ?hy30z1 hHeld ?r30z1
      case hi30z1 => (simp only [List.getElem?_toArray, List.getElem?_cons_zero, List.getElem?_cons_succ]; rfl)
      case hr30z1 => kernel_rfl
      case hQ30z1 => exact fun _ _ _ h => h
      case hy30z1 => (refine Or.inl ⟨by rfl, ?_⟩; intro w hSw; (try dsimp only at hSw); go_simp; try with_reducible rfl)
      try simp only [Act.put, List.setIfInBounds_toArray, List.set_cons_zero, List.set_cons_succ]
      refine wpAnyH_take (i := 31) (oi := ?o31z1) (v := ?v31z1) ?hi31z1 (by kernel_rfl) (by kernel_rfl) ?hr31z1 ?hQ31z1 ?hy31z1 hHeld ?r31z1
      case hi31z1 => (simp only [List.getElem?_toArray, List.getElem?_cons_zero, List.getElem?_cons_succ]; rfl)
      case hr31z1 => kernel_rfl
      case hQ31z1 => exact fun _ _ _ h => h
      case hy31z1 => (refine Or.inl ⟨by rfl, ?_⟩; intro w hSw; (try dsimp only at hSw); go_simp; try with_reducible rfl)
      try simp only [Act.put, List.setIfInBounds_toArray, List.set_cons_zero, List.set_cons_succ]
      refine wpAnyH_ready (rs := [25]) (by kernel_rfl) (by simp) (AllReadyH.cons (o := ?o25z1) ?hi25z1 (fun K hK => ?r25z1) AllReadyH.nil)
      case hi25z1 => (simp only [List.getElem?_toArray, List.getElem?_cons_zero, List.getElem?_cons_succ]; rfl)
      go_simp
      refine ST1.mono ?_
      rintro e u1 ⟨rfl, d1⟩
      have s1 := And.intro (cell_below d1 sX.1) (cell_below d1 sX.2)
      have ST2 := refStamped_any u1 A cl M l HM.out HLB.out HCB.out (HRB.out.below d1) epoch sq
      rw [HY1.out] at ST2
      refine hK.out _ _ (by exact s1) (fun hHeld => ?_)
      clear hK K
      try simp only [Act.put, List.setIfInBounds_toArray, List.set_cons_zero, List.set_cons_succ]
      refine wpAnyH_ready (rs := [32]) (by kernel_rfl) (by simp) (AllReadyH.cons (o := ?o32z1) ?hi32z1 (fun K hK => ?r32z1) AllReadyH.nil)
      case hi32z1 => (simp only [List.getElem?_toArray, List.getElem?_cons_zero, List.getElem?_cons_succ]; rfl)
      go_simp
      refine ST2.mono ?_
      rintro e u2 ⟨rfl, d2⟩
      have s2 := And.intro (cell_below d2 s1.1) (cell_below d2 s1.2)
      have d12 := d1.trans (d2.mono d1.size)
      have ST3 := Stamped_any u2 P cp M l HM.out HCP.out (HRP.out.below d12) E Q
      rw [HY2.out] at ST3
      refine hK.out _ _ (by exact s2) (fun hHeld => ?_)
      clear hK K
      try simp only [Act.put, List.setIfInBounds_toArray, List.set_cons_zero, List.set_cons_succ]
      refine wpAnyH_take (i := 33) (oi := ?o33z1) (v := ?v33z1) ?hi33z1 (by kernel_rfl) (by kernel_rfl) ?hr33z1 ?hQ33z1 ?hy33z1 hHeld ?r33z1
      case hi33z1 => (simp only [List.getElem?_toArray, List.getElem?_cons_zero, List.getElem?_cons_succ]; rfl)
      case hr33z1 => kernel_rfl
      case hQ33z1 => exact fun _ _ _ h => h
      case hy33z1 => (refine Or.inl ⟨by rfl, ?_⟩; intro w hSw; (try dsimp only at hSw); go_simp; try with_reducible rfl)
      try simp only [Act.put, List.setIfInBounds_toArray, List.set_cons_zero, List.set_cons_succ]
      refine wpAnyH_take (i := 34) (oi := ?o34z1) (v := ?v34z1) ?hi34z1 (by kernel_rfl) (by kernel_rfl) ?hr34z1 ?hQ34z1 ?hy34z1 hHeld ?r34z1
      case hi34z1 => (simp only [List.getElem?_toArray, List.getElem?_cons_zero, List.getElem?_cons_succ]; rfl)
      case hr34z1 => kernel_rfl
      case hQ34z1 => exact fun _ _ _ h => h
      case hy34z1 => (refine Or.inl ⟨by rfl, ?_⟩; intro w hSw; (try dsimp only at hSw); go_simp; try with_reducible rfl)
      try simp only [Act.put, List.setIfInBounds_toArray, List.set_cons_zero, List.set_cons_succ]
      refine wpAnyH_take (i := 35) (oi := ?o35z1) (v := ?v35z1) ?hi35z1 (by kernel_rfl) (by kernel_rfl) ?hr35z1 ?hQ35z1 ?hy35z1 hHeld ?r35z1
      case hi35z1 => (simp only [List.getElem?_toArray, List.getElem?_cons_zero, List.getElem?_cons_succ]; rfl)
      case hr35z1 => kernel_rfl
      case hQ35z1 => exact fun _ _ _ h => h
      case hy35z1 => (refine Or.inl ⟨by rfl, ?_⟩; intro w hSw; (try dsimp only at hSw); go_simp; try with_reducible rfl)
      try simp only [Act.put, List.setIfInBounds_toArray, List.set_cons_zero, List.set_cons_succ]
      refine wpAnyH_take (i := 36) (oi := ?o36z1) (v := ?v36z1) ?hi36z1 (by kernel_rfl) (by kernel_rfl) ?hr36z1 ?hQ36z1 ?hy36z1 hHeld ?r36z1
      case hi36z1 => (simp only [List.getElem?_toArray, List.getElem?_cons_zero, List.getElem?_cons_succ]; rfl)
      case hr36z1 => kernel_rfl
      case hQ36z1 => exact fun _ _ _ h => h
      case hy36z1 => (refine Or.inl ⟨by rfl, ?_⟩; intro w hSw; (try dsimp only at hSw); go_simp; try with_reducible rfl)
      try simp only [Act.put, List.setIfInBounds_toArray, List.set_cons_zero, List.set_cons_succ]
      refine wpAnyH_take (i := 37) (oi := ?o37z1) (v := ?v37z1) ?hi37z1 (by kernel_rfl) (by kernel_rfl) ?hr37z1 ?hQ37z1 ?hy37z1 hHeld ?r37z1
      case hi37z1 => (simp only [List.getElem?_toArray, List.getElem?_cons_zero, List.getElem?_cons_succ]; rfl)
      case hr37z1 => kernel_rfl
      case hQ37z1 => exact fun _ _ _ h => h
      case hy37z1 => (refine Or.inl ⟨by rfl, ?_⟩; intro w hSw; (try dsimp only at hSw); go_simp; try with_reducible rfl)
      try simp only [Act.put, List.setIfInBounds_toArray, List.set_cons_zero, List.set_cons_succ]
      refine wpAnyH_take (i := 38) (oi := ?o38z1) (v := ?v38z1) ?hi38z1 (by kernel_rfl) (by kernel_rfl) ?hr38z1 ?hQ38z1 ?hy38z1 hHeld ?r38z1
      case hi38z1 => (simp only [List.getElem?_toArray, List.getElem?_cons_zero, List.getElem?_cons_succ]; rfl)
      case hr38z1 => kernel_rfl
      case hQ38z1 => exact fun _ _ _ h => h
      case hy38z1 => (refine Or.inl ⟨by rfl, ?_⟩; intro w hSw; (try dsimp only at hSw); go_simp; try with_reducible rfl)
      try simp only [Act.put, List.setIfInBounds_toArray, List.set_cons_zero, List.set_cons_succ]
      refine wpAnyH_take (i := 39) (oi := ?o39z1) (v := ?v39z1) ?hi39z1 (by kernel_rfl) (by kernel_rfl) ?hr39z1 ?hQ39z1 ?hy39z1 hHeld ?r39z1
      case hi39z1 => (simp only [List.getElem?_toArray, List.getElem?_cons_zero, List.getElem?_cons_succ]; rfl)
      case hr39z1 => kernel_rfl
      case hQ39z1 => exact fun _ _ _ h => h
      case hy39z1 => (refine Or.inl ⟨by rfl, ?_⟩; intro w hSw; (try dsimp only at hSw); go_simp; try with_reducible rfl)
      try simp only [Act.put, List.setIfInBounds_toArray, List.set_cons_zero, List.set_cons_succ]
      refine wpAnyH_take (i := 40) (oi := ?o40z1) (v := ?v40z1) ?hi40z1 (by kernel_rfl) (by kernel_rfl) ?hr40z1 ?hQ40z1 ?hy40z1 hHeld ?r40z1
      case hi40z1 => (simp only [List.getElem?_toArray, List.getElem?_cons_zero, List.getElem?_cons_succ]; rfl)
      case hr40z1 => kernel_rfl
      case hQ40z1 => exact fun _ _ _ h => h
      case hy40z1 => (refine Or.inl ⟨by rfl, ?_⟩; intro w hSw; (try dsimp only at hSw); go_simp; try with_reducible rfl)
      try simp only [Act.put, List.setIfInBounds_toArray, List.set_cons_zero, List.set_cons_succ]
      refine wpAnyH_take (i := 41) (oi := ?o41z1) (v := ?v41z1) ?hi41z1 (by kernel_rfl) (by kernel_rfl) ?hr41z1 ?hQ41z1 ?hy41z1 hHeld ?r41z1
      case hi41z1 => (simp only [List.getElem?_toArray, List.getElem?_cons_zero, List.getElem?_cons_succ]; rfl)
      case hr41z1 => kernel_rfl
      case hQ41z1 => exact fun _ _ _ h => h
      case hy41z1 => (refine Or.inl ⟨by rfl, ?_⟩; intro w hSw; (try dsimp only at hSw); go_simp; try with_reducible rfl)
      try simp only [Act.put, List.setIfInBounds_toArray, List.set_cons_zero, List.set_cons_succ]
      refine wpAnyH_take (i := 43) (oi := ?o43z1) (v := ?v43z1) ?hi43z1 (by kernel_rfl) (by kernel_rfl) ?hr43z1 ?hQ43z1 ?hy43z1 hHeld ?r43z1
      case hi43z1 => (simp only [List.getElem?_toArray, List.getElem?_cons_zero, List.getElem?_cons_succ]; rfl)
      case hr43z1 => kernel_rfl
      case hQ43z1 => exact fun _ _ _ h => h
      case hy43z1 => (refine Or.inl ⟨by rfl, ?_⟩; intro w hSw; (try dsimp only at hSw); go_simp; try with_reducible rfl)
      try simp only [Act.put, List.setIfInBounds_toArray, List.set_cons_zero, List.set_cons_succ]
      refine wpAnyH_take (i := 44) (oi := ?o44z1) (v := ?v44z1) ?hi44z1 (by kernel_rfl) (by kernel_rfl) ?hr44z1 ?hQ44z1 ?hy44z1 hHeld ?r44z1
      case hi44z1 => (simp only [List.getElem?_toArray, List.getElem?_cons_zero, List.getElem?_cons_succ]; rfl)
      case hr44z1 => kernel_rfl
      case hQ44z1 => exact fun _ _ _ h => h
      case hy44z1 => (refine Or.inl ⟨by rfl, ?_⟩; intro w hSw; (try dsimp only at hSw); go_simp; try with_reducible rfl)
      try simp only [Act.put, List.setIfInBounds_toArray, List.set_cons_zero, List.set_cons_succ]
      refine wpAnyH_take (i := 45) (oi := ?o45z1) (v := ?v45z1) ?hi45z1 (by kernel_rfl) (by kernel_rfl) ?hr45z1 ?hQ45z1 ?hy45z1 hHeld ?r45z1
      case hi45z1 => (simp only [List.getElem?_toArray, List.getElem?_cons_zero, List.getElem?_cons_succ]; rfl)
      case hr45z1 => kernel_rfl
      case hQ45z1 => exact fun _ _ _ h => h
      case hy45z1 => (refine Or.inl ⟨by rfl, ?_⟩; intro w hSw; (try dsimp only at hSw); go_simp; try with_reducible rfl)
      try simp only [Act.put, List.setIfInBounds_toArray, List.set_cons_zero, List.set_cons_succ]
      refine wpAnyH_take (i := 46) (oi := ?o46z1) (v := ?v46z1) ?hi46z1 (by kernel_rfl) (by kernel_rfl) ?hr46z1 ?hQ46z1 ?hy46z1 hHeld ?r46z1
      case hi46z1 => (simp only [List.getElem?_toArray, List.getElem?_cons_zero, List.getElem?_cons_succ]; rfl)
      case hr46z1 => kernel_rfl
      case hQ46z1 => exact fun _ _ _ h => h
      case hy46z1 => (refine Or.inl ⟨by rfl, ?_⟩; intro w hSw; (try dsimp only at hSw); go_simp; try with_reducible rfl)
      try simp only [Act.put, List.setIfInBounds_toArray, List.set_cons_zero, List.set_cons_succ]
      refine wpAnyH_take (i := 47) (oi := ?o47z1) (v := ?v47z1) ?hi47z1 (by kernel_rfl) (by kernel_rfl) ?hr47z1 ?hQ47z1 ?hy47z1 hHeld ?r47z1
      case hi47z1 => (simp only [List.getElem?_toArray, List.getElem?_cons_zero, List.getElem?_cons_succ]; rfl)
      case hr47z1 => kernel_rfl
      case hQ47z1 => exact fun _ _ _ h => h
      case hy47z1 => (refine Or.inl ⟨by rfl, ?_⟩; intro w hSw; (try dsimp only at hSw); go_simp; try with_reducible rfl)
      try simp only [Act.put, List.setIfInBounds_toArray, List.set_cons_zero, List.set_cons_succ]
      refine wpAnyH_take (i := 48) (oi := ?o48z1) (v := ?v48z1) ?hi48z1 (by kernel_rfl) (by kernel_rfl) ?hr48z1 ?hQ48z1 ?hy48z1 hHeld ?r48z1
      case hi48z1 => (simp only [List.getElem?_toArray, List.getElem?_cons_zero, List.getElem?_cons_succ]; rfl)
      case hr48z1 => kernel_rfl
      case hQ48z1 => exact fun _ _ _ h => h
      case hy48z1 => (refine Or.inl ⟨by rfl, ?_⟩; intro w hSw; (try dsimp only at hSw); go_simp; try with_reducible rfl)
      try simp only [Act.put, List.setIfInBounds_toArray, List.set_cons_zero, List.set_cons_succ]
      refine wpAnyH_ready (rs := [42]) (by kernel_rfl) (by simp) (AllReadyH.cons (o := ?o42z1) ?hi42z1 (fun K hK => ?r42z1) AllReadyH.nil)
      case hi42z1 => (simp only [List.getElem?_toArray, List.getElem?_cons_zero, List.getElem?_cons_succ]; rfl)
      go_simp
      refine ST3.mono ?_
      rintro e u3 ⟨rfl, d3⟩
      have s3 := And.intro (cell_below d3 s2.1) (cell_below d3 s2.2)
      have d13 := d12.trans (d3.mono d12.size)
      have ST4 := refStamped_any u3 A cl M l HM.out HLB.out HCB.out (HRB.out.below d13) E Q
      rw [HY2.out] at ST4
      refine hK.out _ _ (by exact s3) (fun hHeld => ?_)
      clear hK K
      try simp only [Act.put, List.setIfInBounds_toArray, List.set_cons_zero, List.set_cons_succ]
      refine wpAnyH_ready (rs := [49]) (by kernel_rfl) (by simp) (AllReadyH.cons (o := ?o49z1) ?hi49z1 (fun K hK => ?r49z1) AllReadyH.nil)
      case hi49z1 => (simp only [List.getElem?_toArray, List.getElem?_cons_zero, List.getElem?_cons_succ]; rfl)
      go_simp
      refine ST4.mono ?_
      rintro e u4 ⟨rfl, d4⟩
      have s4 := And.intro (cell_below d4 s3.1) (cell_below d4 s3.2)
      have d14 := d13.trans (d4.mono d13.size)
      refine hK.out _ _ (by exact s4) (fun hHeld => ?_)
      clear hK K
      try simp only [Act.put, List.setIfInBounds_toArray, List.set_cons_zero, List.set_cons_succ]
      refine wpAnyH_take (i := 50) (oi := ?o50z1) (v := ?v50z1) ?hi50z1 (by kernel_rfl) (by kernel_rfl) ?hr50z1 ?hQ50z1 ?hy50z1 hHeld ?r50z1
      case hi50z1 => (simp only [List.getElem?_toArray, List.getElem?_cons_zero, List.getElem?_cons_succ]; rfl)
      case hr50z1 => kernel_rfl
      case hQ50z1 => exact fun _ _ _ h => h
      case hy50z1 => (refine Or.inl ⟨by rfl, ?_⟩; intro w hSw; (try dsimp only at hSw); go_simp; try with_reducible rfl)
      try simp only [Act.put, List.setIfInBounds_toArray, List.set_cons_zero, List.set_cons_succ]
      refine wpAnyH_take (i := 51) (oi := ?o51z1) (v := ?v51z1) ?hi51z1 (by kernel_rfl) (by kernel_rfl) ?hr51z1 ?hQ51z1 ?hy51z1 hHeld ?r51z1
      case hi51z1 => (simp only [List.getElem?_toArray, List.getElem?_cons_zero, List.getElem?_cons_succ]; rfl)
      case hr51z1 => kernel_rfl
      case hQ51z1 => exact fun _ _ _ h => h
      case hy51z1 => (refine Or.inl ⟨by rfl, ?_⟩; intro w hSw; (try dsimp only at hSw); go_simp; try with_reducible rfl)
      try simp only [Act.put, List.setIfInBounds_toArray, List.set_cons_zero, List.set_cons_succ]
      refine wpAnyH_done (by kernel_rfl) ?_ _
      go_wp2_with fail
      go_roundw
      case rel => exact ⟨k + 1, by omega, by go_num, HB.out.trans ((BF.out.trans (d14.mono BF.out.size)).mono HB.out.size)⟩
      case measure => simp [intOf]; omega
    · obtain rfl : k = N2 := by omega
      have SI := SameImages_any wr A1 a c1 c N N ims ims HN.out HN.out (by have := HN.out; omega) (GG.out.below hb) (HG.out.below hbw)
      rw [show decide (ims = ims) = true from decide_eq_true rfl] at SI
      obtain ⟨q0, q1, q2⟩ := cells3 ((hb.block _ (heap_in HRW.out)).trans HRW.out)
      have HB := hid hb; have HBW := hid hbw
      clear hb hbw
      go_wp2_with fail
      refine SI.mono ?_
      rintro e w11 ⟨rfl, b11⟩
      clear SI q0 q1 q2
      have hb1 := HB.out.trans (b11.mono HB.out.size)
      have hbw1 := HBW.out.trans (b11.mono HBW.out.size)
      have SL := SameLists_any w11 A2 a2 c2' c2 k k ls ls HN2.out HN2.out (by have := HN2.out; omega) (LL.out.below hb1) (HR.out.below hbw1)
      rw [show decide (ls = ls) = true from decide_eq_true rfl] at SL
      have HBW1 := hid hbw1
      clear hb1 hbw1 b11
      go_wp2_with fail
      refine SL.mono ?_
      rintro e w12 ⟨rfl, b12⟩
      clear SL
      go_wp2_with fail
      refine (awake06_any _).mono ?_
      rintro e w13 ⟨rfl, b13⟩
      have hf := HBW1.out.trans (b12.mono HBW1.out.size)
      have HF := hid (hf.trans (b13.mono hf.size))
      clear hf b12 b13
      go_wp2
      go_ret
      exact ⟨rfl, HF.out⟩
end Go.Proofs.Ytknhfaplddgnlaa
