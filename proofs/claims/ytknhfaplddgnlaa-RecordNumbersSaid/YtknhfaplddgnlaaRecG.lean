/- record.Put. -/
import Derived.Test.YtknhfaplddgnlaaRecF
import Derived.Test.YtknhfaplddgnlaaOct
namespace Go.Proofs.Ytknhfaplddgnlaa
open Go.RowKit
set_option maxHeartbeats 1000000
set_option maxRecDepth 100000
set_option linter.unusedVariables false
set_option linter.unusedSimpArgs false

def PuInv (B : Nat) (w1 : World) (m : List UInt8) (ims : List Img) (k : Nat) (vo vl : Value) (wr : World) : Prop :=
  ∃ oa oc la lc gs, vo = .slice oa (k + 1) oc ∧ vl = .slice la (66 * k) lc ∧ wr.ownsRow B 31 1 (.slice oa (k + 1) oc) (k + 1) (.slice none 0 0 :: vals gs) ∧ Blk B wr gs ((ims.take k).map fun x => markB m x.2) ∧
    OwnB B wr la lc (tabB (ims.take k)) ∧ Below B w1 wr ∧ ∀ p ∈ gs, ¬ blkOf la p.1
theorem blk_adr {base c : Nat} {w : World} {a : Option Addr} {l : List UInt8} (h : OwnB base w a c l) {b : Nat} (hb : blkOf a b) : ∃ g, a = some ⟨g, 0, none⟩ := by
  rcases h.2 with ⟨hv, _⟩ | ⟨g', cap, cur, hv, _⟩
  · simp only [Value.slice.injEq] at hv
    obtain ⟨rfl, _⟩ := hv
    simp [blkOf] at hb
  · simp only [Value.slice.injEq, true_and] at hv
    exact ⟨g', hv.1⟩
theorem own_slice1 {w : World} {base n size : Nat} {e : TypeId} {v : Value} {xs : List Value} (h : w.ownsRow base e size v n xs) (hn : 0 < n) : ∃ g c, v = .slice (some ⟨g, 0, none⟩) n c ∧ base ≤ g ∧ g < w.heap.size := by
  rcases h.2 with ⟨_, h0⟩ | ⟨g', cap, cur, rfl, hb, hg, r⟩
  · omega
  · exact ⟨g', cap, rfl, hb, heap_in hg⟩
theorem Put_any (w : World) (ep seq : Int) (a : Option Addr) (N c : Nat) (ims : List Img) (hN : N = ims.length) (hr : RdG w a ims) :
    Calls Try.prog 7 #[.agg #[.int .i64 ep, .int .i64 seq, .slice a N c]] w fun e w' => Below w.heap.size w w' ∧
      (rightG ep seq ims = false → e = .returned (.tuple #[.slice none 0 0, .int .i64 80])) ∧
      (rightG ep seq ims = true → ∃ L cL gs, e = .returned (.tuple #[.slice (some ⟨L, 0, none⟩) (N + 1) cL, .int .i64 0]) ∧ OwLs w.heap.size w' L cL gs (putB ep.toNat seq.toNat ims)) := by
  subst hN
  have hrow0 := heap_alloc_new w (.cells #[.int .i64 ep, .int .i64 seq, .slice a ims.length c] 28)
  have hb0 : Below w.heap.size w (w.alloc (.cells #[.int .i64 ep, .int .i64 seq, .slice a ims.length c] 28)) := (Below.refl _ _).alloc (Nat.le_refl _) _
  have RG := right_any _ ep seq a _ c ims rfl (hr.below hb0)
  rcases hR : rightG ep seq ims
  · rw [hR] at RG
    clear hR hr hrow0
    go_enter Try.func7, Try.ntmps7
    go_wp2_with fail
    refine RG.mono ?_
    rintro e w1 ⟨rfl, b1⟩
    go_wp2
    go_ret2
    exact ⟨hb0.trans (b1.mono hb0.size), fun _ => rfl, fun h => by cases h⟩
  · rw [hR] at RG
    obtain ⟨h1, h2, h3, h4, h5, h6, h7⟩ := of_decide_eq_true hR
    clear hR
    obtain ⟨x, rfl⟩ := Int.eq_ofNat_of_zero_le (show 0 ≤ ep by omega)
    obtain ⟨y, rfl⟩ := Int.eq_ofNat_of_zero_le (show 0 ≤ seq by omega)
    have HOK := hid h7
    clear h7
    go_enter Try.func7, Try.ntmps7
    go_wp2_with fail
    refine RG.mono ?_
    rintro e wa ⟨rfl, ba⟩
    clear RG
    simp only [World.size_alloc] at ba
    have hba := hb0.trans (ba.mono (by omega))
    have hga := (ba.block _ (by omega)).trans hrow0
    have g0 : wa.cell? ⟨w.heap.size, 0, none⟩ = some (.int .i64 (x : Int)) := by rw [cell_of_row _ _ _ _ _ _ hga]; rfl
    have g1 : wa.cell? ⟨w.heap.size, 1, none⟩ = some (.int .i64 (y : Int)) := by rw [cell_of_row _ _ _ _ _ _ hga]; rfl
    have ST := stamp_any wa x y _ _ rfl rfl (by omega) (by omega)
    go_wp2_with fail
    refine ST.mono ?_
    rintro e w1 ⟨gm, cm, rfl, hm, bm⟩
    clear ST g0 g1
    have hb1 := hba.trans (bm.mono hba.size)
    have hg1 := (bm.block _ (heap_in hga)).trans hga
    have hr1 := hr.below hb1
    have hml := stampB_length x y
    generalize hmm : stampB x y = m at *
    have HMM := hid hmm
    have b2 : Below w1.heap.size w1 (w1.alloc (.cells #[.slice none 0 0] 31)) := (Below.refl _ _).alloc (Nat.le_refl _) _
    have hg2 := (b2.block _ (heap_in hg1)).trans hg1
    have g2 : (w1.alloc (.cells #[.slice none 0 0] 31)).cell? ⟨w.heap.size, 2, none⟩ = some (.slice a ims.length c) := by rw [cell_of_row _ _ _ _ _ _ hg2]; rfl
    have ho0 : (w1.alloc (.cells #[.slice none 0 0] 31)).ownsRow w1.heap.size 31 1 (.slice (some ⟨w1.heap.size, 0, none⟩) 1 1) 1 [.slice none 0 0] := by
      have h := World.ownsRow_lit (base := w1.heap.size) (e := 31) (size := 1) w1 #[.slice none 0 0] 1 (Nat.le_refl _) (by simp only [maxLen]; omega) (by simp)
      simpa using h
    clear hmm hrow0 hb0 ba hba hga bm hg2 hr
    go_wp2_with fail
    go_loopw [5, 6, 24] (fun vo vl i wr => ∃ k : Nat, k ≤ ims.length ∧ i = .int .i64 k ∧ PuInv w1.heap.size w1 m ims k vo vl wr) (fun _ _ i _ => ims.length - (intOf i).toNat)
    case atStart => exact ⟨0, Nat.zero_le _, rfl, _, _, _, _, [], rfl, rfl, ho0, Blk.nil _ _, OwnB.nil _ _, b2, by simp⟩
    case round =>
      obtain ⟨k, hk, rfl, oa, oc, la, lc, gs, rfl, rfl, q1, q2, q3, q4, qd⟩ := hrel
      clear ho0 g2 b2
      by_cases hlt : k < ims.length
      · obtain ⟨xx, hx⟩ : ∃ x, ims[k]? = some x := ⟨ims[k], List.getElem?_eq_getElem _⟩
        obtain ⟨b, off, A, cc, rfl, c0, c1, rd, hcc⟩ := (hr1.below q4) k xx hx
        have ht := take_snoc ims k xx hx
        obtain ⟨hx1, hx2, hx3⟩ := HOK.out.1 xx (List.mem_of_getElem? hx)
        obtain ⟨xb, xd⟩ := xx
        dsimp only at rd hx1 hx2 hx3
        dsimp only at c0 c1 hcc
        obtain ⟨j, rfl⟩ := Int.eq_ofNat_of_zero_le hx1
        obtain ⟨b3, off3, rfl, _⟩ := rd.at_ (by intro e; rw [e] at hx3; exact absurd hx3 (by decide))
        rw [hx3] at c1 hcc
        have bx : Below wr.heap.size wr (wr.alloc (.cells #[.int .i64 (j : Int), .slice (some ⟨b3, off3, none⟩) 4096 cc] 38)) := (Below.refl _ _).alloc (Nat.le_refl _) _
        have MK := marked_any (wr.alloc (.cells #[.int .i64 (j : Int), .slice (some ⟨b3, off3, none⟩) 4096 cc] 38)) b3 off3 cc xd hx3 (rd.below bx) gm 0 cm m hml ((hm.rd.below q4).below bx)
        have HT := hid ht; have HX := hid hx
        have hxrow := heap_alloc_new wr (.cells #[.int .i64 (j : Int), .slice (some ⟨b3, off3, none⟩) 4096 cc] 38)
        clear ht hx
        go_wp2_with fail
        refine MK.mono ?_
        rintro e w4 ⟨g, cg, ha, hc, rfl, hog, hoh, b4⟩
        clear MK
        simp only [World.size_alloc] at hog hoh b4
        have bw4 := bx.trans (b4.mono (Nat.le_succ _))
        have hxr4 := (b4.block _ (by simp)).trans hxrow
        have hgn : g ∉ gs.map (·.1) := by
          intro h
          obtain ⟨p, hp, e⟩ := List.mem_map.1 h
          have h1 := (q2.lt hp).2
          have h2 := hog.lt.1
          omega
        have hgl : (markB m xd).length = 4096 := by rw [markB_length]; exact hx3
        have hsw := q4.size
        have q14 := own_below q1 bw4
        have q24 := q2.below bw4
        have q34 := q3.below bw4
        have q44 := q4.trans (bw4.mono q4.size)
        obtain ⟨W5, hW5⟩ : ∃ W5, W5 = w4.alloc (.cells #[.slice (some ⟨g, 0, none⟩) 4096 cg] 31) := ⟨_, rfl⟩
        have b5 : Below w4.heap.size w4 W5 := by rw [hW5]; exact (Below.refl _ _).alloc (Nat.le_refl _) _
        have q15 := own_below q14 b5
        have q45 := q44.trans (b5.mono q44.size)
        have rl : RdV W5 (some ⟨w4.heap.size, 0, none⟩) [.slice (some ⟨g, 0, none⟩) 4096 cg] := by rw [hW5]; exact RdV.one
        have hxr5 := (b5.block _ (heap_in hxr4)).trans hxr4
        have hog5 := hog.below b5
        have hoh5 := hoh.below b5
        have q25 := q24.below b5
        have q35 := q34.below b5
        have hz5 : W5.heap.size = w4.heap.size + 1 := by rw [hW5]; simp
        -- what append's row is not
        have nX : (Value.slice oa (k + 1) oc).ownBlock ≠ some wr.heap.size := fun h => absurd (row_no q15 h hxr5) (by decide)
        have nG : (Value.slice oa (k + 1) oc).ownBlock ≠ some g := fun h => by
          obtain ⟨cur, hc, _⟩ := hog5.row
          exact absurd (row_no q15 h hc) (by decide)
        have nB : ∀ p ∈ gs, (Value.slice oa (k + 1) oc).ownBlock ≠ some p.1 := fun p hp h => by
          obtain ⟨cs, hc⟩ := q25.u8 hp
          exact absurd (row_no q15 h hc) (by decide)
        have nO : ∀ {base a c l}, OwnB base W5 a c l → ∀ b, blkOf a b → (Value.slice oa (k + 1) oc).ownBlock ≠ some b := fun ho b hb h => by
          obtain ⟨g', e⟩ := blk_adr ho hb
          subst e
          have e2 : g' = b := by simpa [blkOf] using hb
          subst e2
          obtain ⟨cur, hc, _⟩ := ho.row
          exact absurd (row_no q15 h hc) (by decide)
        have hQ15 := hid q15
        rw [hW5] at q15 q45 rl
        clear q14 q24 q34 q44 q1 q2 q3 b4 hxr4 hxrow c0 c1 rd bx hog hoh
        go_wp2_with (with_reducible refine app_own rfl (.tmp 35) (.tmp 37) 22 31 (.slice none 0 0) 1 24 rfl Try.underlying22 info_L rfl (by decide) (by decide) w1.heap.size (.slice oa (k + 1) oc) (k + 1) (.slice none 0 0 :: vals gs) rfl q15 (some ⟨w4.heap.size, 0, none⟩) 1 1 [.slice (some ⟨g, 0, none⟩) 4096 cg] rfl rfl rl (by simp [Value.oneCell']) (by omega) w1 q45 q45.size ?_; intro A1 c1 w6 h6a h6b h6c h6d; rw [← hW5] at h6c; have K6 := Kpt.of_grown (S := fun b => (Value.slice oa (k + 1) oc).ownBlock = some b) h6c (fun j e => e); have hxr6 := K6.row hxr5 nX; have cx6 : w6.cell? ⟨wr.heap.size, 0, none⟩ = some (.int .i64 (j : Int)) := by { rw [cell_of_row _ _ _ _ _ _ hxr6]; simp })
        have hog6 := hog5.kpt K6 nG
        have hoh6 := hoh5.kptA K6 (nO hoh5)
        have q26 := q25.kpt K6 nB
        have q36 := q35.kptA K6 (nO q35)
        clear hog5 hoh5 q25 q35 nO nB nG nX hxr5
        have hll : (tabB (ims.take k)).length = 66 * k := by rw [tabB_length, List.length_take]; omega
        have A16 := Add16_any w6 la lc (66 * k) _ hll.symm j _ rfl (by omega) q36.rd (by omega)
        have hz6 := K6.size
        go_wp2_with fail
        refine A16.mono ?_
        rintro e w7 ⟨A7, c7, rfl, ho7, b7⟩
        clear A16 cx6
        have hoh7 := hoh6.below b7
        have hll2 : (tabB (ims.take k) ++ be j 2).length = 66 * k + 2 := by rw [List.length_append, hll, be_length]
        go_wp2_with (with_reducible refine app_bytes2 rfl (.tmp 43) (.tmp 44) rfl w6.heap.size A7 c7 (66 * k + 2) (tabB (ims.take k) ++ be j 2) hll2.symm rfl ho7 ha 64 hc (hidB xd) rfl (hidB_length xd).symm hoh7.rd (66 * k + 2 + 64) (by rw [hll2, hidB_length]) (by rw [hll2, hidB_length]; omega) b7.size ?_; intro A8 c8 w8 ho8 hap8; obtain ⟨K8, hA8⟩ := app_kpt hap8)
        go_roundw
        case rel =>
          have hs67 := b7.size
          have hA7 : ∀ b, blkOf A7 b → w6.heap.size ≤ b := fun b hb => (ho7.blk hb).1
          have hw16 := h6b.size
          refine ⟨k + 1, by omega, by go_num, A1, c1, A8, c8, gs ++ [(g, cg)], rfl, by congr 1, ?_, ?_, ?_, ?_, ?_⟩
          · have := ownsRow_kpt (own_below h6a b7) K8 (fun b hb h => by have h1 := own_lt h6a b hb; have h2 := hA7 b h; omega)
            rw [vals_snoc]
            simpa using this
          · rw [HT.out, List.map_append]
            refine ((q26.snoc (hog6.mono (by omega)) hgl hgn).below b7).kpt K8 (fun p hp h => ?_)
            have h2 := hA7 _ h
            rcases List.mem_append.1 hp with hp | hp
            · have := (q26.lt hp).2
              omega
            · simp only [List.mem_singleton] at hp
              subst hp
              have := hog6.lt.2
              simp only at h2
              omega
          · rw [HT.out, tabB_snoc]
            exact ho8.mono hw16
          · exact belowK (h6b.trans (b7.mono hw16)) K8 (fun b hb => by have := hA7 b hb; omega) (by omega)
          · intro p hp h
            have h3 : p.1 < w6.heap.size := by
              rcases List.mem_append.1 hp with hp | hp
              · exact (q26.lt hp).2
              · simp only [List.mem_singleton] at hp
                subst hp
                exact hog6.lt.2
            rcases hA8 _ h with h | h
            · have := hA7 _ h
              omega
            · omega
        case measure => simp [intOf]; omega
      · obtain rfl : k = ims.length := by omega
        rw [List.take_of_length_le (Nat.le_refl _)] at q2 q3
        have hll : (tabB ims).length = 66 * ims.length := tabB_length ims
        have hg2 := (q4.block _ (heap_in hg1)).trans hg1
        have hwr := q4.size
        have hlw : ¬ blkOf la w.heap.size := fun h => by have := (q3.blk h).1; have := heap_in hg1; omega
        go_wp2_with (with_reducible refine app_zeros2 rfl (.tmp 47) (.tmp 50) rfl w1.heap.size la lc (66 * ims.length) (tabB ims) hll.symm rfl q3 (4026 - 66 * ims.length) (4026 - 66 * (ims.length : Int)) (by omega) rfl (66 * ims.length + (4026 - 66 * ims.length)) (by rw [hll]) (by rw [hll]; omega) hwr ?_; intro A2 c2 w2 ho2 K2; have hg22 := K2.row hg2 hlw; have cg2 : w2.cell? ⟨w.heap.size, 2, none⟩ = some (.slice a ims.length c) := by { rw [cell_of_row _ _ _ _ _ _ hg22]; simp })
        have elB : tabB ims ++ zeros (4026 - 66 * ims.length) = lB ims := rfl
        rw [elB] at ho2
        have hlbl := lB_length ims h6
        have hinl := inB_length ims h6
        have hK2 := K2.size
        have q12 := ownsRow_kpt q1 K2 (fun b hb h => by
          obtain ⟨g', e⟩ := blk_adr q3 h
          subst e
          have e2 : g' = b := by simpa [blkOf] using h
          subst e2
          obtain ⟨cur, hc, _⟩ := q3.row
          exact absurd (row_no q1 hb hc) (by decide))
        have q22 := q2.kpt K2 qd
        have hm2 := (hm.below q4).kpt K2 (fun h => by have := (q3.blk h).1; have := hm.lt.2; omega)
        have q42 := belowK q4 K2 (fun b hb => (q3.blk hb).1) hwr
        have A16 := Add16_any w2 none 0 0 [] rfl ims.length _ rfl (by decide) (RdB.nil _ _) (by omega)
        clear q1 q2 q3 qd K2 hg2 hg22 hlw hll elB
        go_wp2_with fail
        refine A16.mono ?_
        rintro e w3 ⟨A3, c3, rfl, ho3, b3⟩
        clear A16 cg2
        rw [List.nil_append] at ho3
        have CR := Crc_any w3 A2 c2 (66 * ims.length + (4026 - 66 * ims.length)) (lB ims) (by rw [hlbl]; omega) (by omega) (ho2.below b3).rd
        go_wp2_with fail
        refine CR.mono ?_
        rintro e w4 ⟨rfl, b4⟩
        clear CR
        have b24 := b3.trans (b4.mono b3.size)
        have A32 := Add32_any w4 A3 c3 2 (be ims.length 2) (be_length _ _).symm (crcMore 0 (lB ims)) _ rfl (by rw [be_length]; omega) (ho3.below b4).rd (crcMore_lt 0 _)
        go_wp2_with fail
        refine A32.mono ?_
        rintro e w5 ⟨A5, c5, rfl, ho5, b5⟩
        clear A32
        have b25 := b24.trans (b5.mono b24.size)
        have ho25 := ho2.below b25
        have h6l : (be ims.length 2 ++ be (crcMore 0 (lB ims)) 4).length = 6 := by simp [be_length]
        have q15 := own_below q12 b25
        have q25 := q22.below b25
        have hm5 := hm2.below b25
        have q45 := q42.trans (b25.mono q42.size)
        have hz25 := b25.size
        have hz45 := b5.size
        have hz24 := b24.size
        have hz42 := q42.size
        obtain ⟨L, cL, eL, hL1, hL2⟩ := own_slice1 q15 (by omega)
        simp only [Value.slice.injEq, true_and] at eL
        obtain ⟨rfl, rfl⟩ := eL
        have cL5 := World.ownsRow.cellAt q15 0 (by omega)
        have hA5 : ∀ b, blkOf A5 b → w4.heap.size ≤ b := fun b hb => (ho5.blk hb).1
        have nL5 : ∀ b, blkOf A5 b → b ≠ L := fun b hb => by have := hA5 b hb; have := own_lt q12 L rfl; omega
        have hL2p : ∀ p ∈ gs, p.1 < w2.heap.size := fun p hp => (q22.lt hp).2
        clear q12 q22 hm2 q42 b3 b4 b5 b24 ho2 ho3
        go_wp2_with (with_reducible refine app_bytes2 rfl (.tmp 61) (.tmp 62) rfl w4.heap.size A5 c5 (2 + 4) _ h6l.symm rfl ho5 A2 (66 * ims.length + (4026 - 66 * ims.length)) c2 (lB ims) rfl (by rw [hlbl]; omega) ho25.rd 4032 (by rw [h6l, hlbl]) (by rw [h6l, hlbl]; omega) hz45 ?_; intro A6 c6 w6 ho6 hap6; obtain ⟨K6, hA6⟩ := app_kpt hap6)
        have ein : be ims.length 2 ++ be (crcMore 0 (lB ims)) 4 ++ lB ims = inB ims := rfl
        rw [ein] at ho6
        obtain ⟨g6, rfl, hg61, hg62⟩ := own_adr4 ho6 (by omega)
        have hcap6 := ho6.cap
        rw [hinl] at hcap6
        have hm6 := hm5.kpt K6 (fun h => by have := hA5 _ h; have := hm.lt.2; omega)
        have q16 := ownsRow_kpt q15 K6 (fun b hb h => nL5 b h (by simpa [Value.ownBlock] using hb.symm))
        have q26 := q25.kpt K6 (fun p hp h => by
          obtain ⟨l, hl, _⟩ := q25.get hp
          have h1 := hA5 _ h
          have h2 := hL2p p hp
          omega)
        have q46 := belowK q45 K6 (fun b hb => by have := hA5 b hb; omega) (by omega)
        have hz56 := K6.size
        have SP := spread_any w6 g6 0 c6 (inB ims) hinl ho6.rd hcap6 gm 0 cm m hml hm6.rd
        refine SP.mono ?_
        rintro e w7 ⟨g7, c7, rfl, ho7, b7⟩
        clear SP
        have q17 := own_below q16 b7
        have q27 := q26.below b7
        have q47 := q46.trans (b7.mono q46.size)
        have hz67 := b7.size
        have cL7 := World.ownsRow.cellAt q17 0 (by omega)
        rw [List.getElem?_cons_zero] at cL7
        have fL7 := World.ownsRow.frozenAt q17 0
        have q18 := (World.ownsRow.stored q17 0 (.slice (some ⟨g7, 0, none⟩) 4096 c7)).1
        have K8 : Kpt (fun b => b = L) w7 (w7.setCell ⟨L, 0, none⟩ (.slice (some ⟨g7, 0, none⟩) 4096 c7)) := (Kpt.refl (fun b => b = L) w7).stc rfl _
        have hL27 : ∀ p ∈ gs, p.1 ≠ L := fun p hp h => by
          obtain ⟨cs, hc⟩ := q27.u8 hp
          rw [h] at hc
          exact absurd (row_no q17 rfl hc) (by decide)
        have q28 := q27.kpt K8 hL27
        have ho8 := ho7.kpt K8 (fun h => by
          obtain ⟨cur, hc, _⟩ := ho7.row
          rw [h] at hc
          exact absurd (row_no q17 rfl hc) (by decide))
        have hg7 : g7 ∉ gs.map (·.1) := by
          intro h
          obtain ⟨p, hp, e⟩ := List.mem_map.1 h
          have h1 := hL2p p hp
          have h2 := ho7.lt.1
          omega
        have hfin : OwLs w.heap.size (w7.setCell ⟨L, 0, none⟩ (.slice (some ⟨g7, 0, none⟩) 4096 c7)) L oc ((g7, c7) :: gs) (putB x y ims) := by
          have e1 : (putB x y ims).length = ims.length + 1 := by simp [putB]
          refine OwLs.mono (base := w1.heap.size) ⟨by rw [e1]; exact q18, ?_⟩ hb1.size
          unfold putB headB
          rw [HMM.out]
          exact q28.cons (ho8.mono (by omega)) (spreadB_length hml hinl) hg7
        have hbl8 := hb1.trans ((belowK q47 K8 (fun b hb => by omega) (by omega)).mono hb1.size)
        have HFIN := hid hfin; have HBL := hid hbl8
        clear cL5 hfin hbl8 q18 q28 ho8 K8
        go_wp2
        go_ret2
        exact ⟨HBL.out, fun h => (by cases h), fun _ => ⟨L, oc, (g7, c7) :: gs, rfl, HFIN.out⟩⟩
end Go.Proofs.Ytknhfaplddgnlaa
