/- The document's Put (printed by gen06j.py). -/
import Derived.Test.YtknhfaplddgnlaaRecQ
namespace Go.Proofs.Ytknhfaplddgnlaa
open Go.RowKit
set_option maxHeartbeats 1000000
set_option maxRecDepth 100000
set_option linter.unusedVariables false
set_option linter.unusedSimpArgs false

theorem refPut_any (w : World) (ep seq : Int) (a : Option Addr) (N c : Nat) (ims : List Img) (hN : N = ims.length) (hr : RdG w a ims) :
    Calls Try.prog 20 #[.agg #[.int .i64 ep, .int .i64 seq, .slice a N c]] w fun e w' => Below w.heap.size w w' ∧
      (rightG ep seq ims = false → e = .returned (.tuple #[.slice none 0 0, .int .i64 80])) ∧
      (rightG ep seq ims = true → ∃ L cL gs, e = .returned (.tuple #[.slice (some ⟨L, 0, none⟩) (N + 1) cL, .int .i64 0]) ∧ OwLs w.heap.size w' L cL gs (putB ep.toNat seq.toNat ims)) := by
  have hb0 : Below w.heap.size w (w.alloc (.cells #[.int .i64 ep, .int .i64 seq, .slice a N c] 28)) := (Below.refl _ _).alloc (Nat.le_refl _) _
  have hrow0 := heap_alloc_new w (.cells #[.int .i64 ep, .int .i64 seq, .slice a N c] 28)
  have hz0 : (w.alloc (.cells #[.int .i64 ep, .int .i64 seq, .slice a N c] 28)).heap.size = w.heap.size + 1 := by simp
  obtain ⟨w0, hw0⟩ : ∃ w0, w0 = w.alloc (.cells #[.int .i64 ep, .int .i64 seq, .slice a N c] 28) := ⟨_, rfl⟩
  have RT := refRight_any w0 ep seq a N c ims hN (by rw [hw0]; exact hr.below hb0)
  obtain ⟨q0, q1, q2⟩ := cells3 hrow0
  rw [← hw0] at hrow0 hz0 hb0
  have HW := hid hw0; have HB0 := hid hb0; have HN := hid hN
  rcases hR : rightG ep seq ims with _ | _
  · have HR := hid hR
    rw [hw0, hR] at RT
    clear hR hw0 hN
    go_enter Try.func20, Try.ntmps20
    go_wp2_with fail
    refine RT.mono ?_
    rintro e w1 ⟨rfl, b1⟩
    rw [← HW.out] at b1
    clear RT
    go_wp2
    go_ret2
    exact ⟨HB0.out.trans (b1.mono HB0.out.size), fun _ => rfl, fun h => by cases h⟩
  · have HR := hid hR
    rw [hR] at RT
    obtain ⟨h1, h2, h3, h4, h5, h6, hok⟩ := rightG_out hR
    have HOK := hid hok
    have hN32 : N ≤ 32 := by omega
    have hN1 : 1 ≤ N := by omega
    obtain ⟨E, rfl⟩ := Int.eq_ofNat_of_zero_le (show 0 ≤ ep by omega)
    obtain ⟨Q, rfl⟩ := Int.eq_ofNat_of_zero_le (show 0 ≤ seq by omega)
    simp only [Int.toNat_natCast]
    rw [hw0] at RT
    have HRR := hid hr
    clear hok hR h5 h6 hN hw0 hr
    go_enter Try.func20, Try.ntmps20
    go_wp2_with fail
    refine RT.mono ?_
    rintro e w1 ⟨rfl, b1⟩
    rw [← HW.out] at b1
    clear RT q0 q1 q2 HW
    have hrow1 := (b1.block _ (heap_in hrow0)).trans hrow0
    obtain ⟨q0, q1, q2⟩ := cells3 hrow1
    have hbz1 := HB0.out.trans (b1.mono HB0.out.size)
    have HD := refHead_any w1 E Q a N c ims HN.out (HRR.out.below hbz1) HR.out
    have HB1 := hid b1
    clear b1 hrow1 hbz1
    go_wp2_with fail
    refine HD.mono ?_
    rintro e w2 ⟨A1, c1, rfl, ho2, b2⟩
    clear HD q0 q1 q2
    have hhl := headB_length E Q ims (by rw [← HN.out]; exact hN32)
    obtain ⟨g1, eA, hg1a, hg1b⟩ := own_adr4 ho2 (by rw [hhl]; decide)
    subst eA
    have hw2z := b2.size
    have hw1z := HB1.out.size
    have hlit := World.ownsRow_lit (base := w1.heap.size) (e := 31) (size := 1) w2 #[.slice (some ⟨g1, 0, none⟩) 4096 c1] 1 hw2z (by decide) rfl
    have b3 : Below w2.heap.size w2 (w2.alloc (.cells #[.slice (some ⟨g1, 0, none⟩) 4096 c1] 31)) := (Below.refl _ _).alloc (Nat.le_refl _) _
    have hb13 := b2.trans (b3.mono hw2z)
    have hblk : Blk w1.heap.size (w2.alloc (.cells #[.slice (some ⟨g1, 0, none⟩) 4096 c1] 31)) [(g1, c1)] [headB E Q ims] := by
      have := (Blk.nil w1.heap.size (w2.alloc (.cells #[.slice (some ⟨g1, 0, none⟩) 4096 c1] 31))).snoc (ho2.below b3) hhl (by simp)
      exact this
    obtain ⟨w3, hw3⟩ : ∃ w3, w3 = w2.alloc (.cells #[.slice (some ⟨g1, 0, none⟩) 4096 c1] 31) := ⟨_, rfl⟩
    rw [← hw3] at hlit hb13 hblk
    have HLIT := hid hlit; have HB13 := hid hb13; have HBLK := hid hblk; have HW3 := hid hw3
    clear hlit hb13 hblk ho2 b2 b3 hw3
    go_wp2_with fail
    rw [← HW3.out]
    generalize w2.heap.size = G2 at *
    clear HW3
    have hst8 := stampB_length E Q
    go_loopw [4, 5] (fun s i wr => ∃ (k : Nat) (A : Option Addr) (c' n : Nat) (gs : List (Nat × Nat)), k ≤ N ∧ i = .int .i64 k ∧ n = k + 1 ∧ s = .slice A n c' ∧ wr.ownsRow w1.heap.size 31 1 (.slice A n c') n (vals gs) ∧
      Blk w1.heap.size wr gs (headB E Q ims :: (ims.take k).map fun x => markB (stampB E Q) x.2) ∧ Below w1.heap.size w1 wr) (fun _ i _ => N - (intOf i).toNat)
    case atStart => exact ⟨0, some ⟨G2, 0, none⟩, 1, 1, [(g1, c1)], Nat.zero_le _, rfl, rfl, rfl, HLIT.out, HBLK.out, HB13.out⟩
    case round => as_aux_lemma =>
      obtain ⟨k, A, c', n, gs, hk, rfl, hn, rfl, p1, p2, p3⟩ := hrel
      have hb01 := HB1.out.trans (p3.mono HB1.out.size)
      have hrow := (hb01.block _ (heap_in hrow0)).trans hrow0
      have hbz := HB0.out.trans (hb01.mono HB0.out.size)
      obtain ⟨q0, q1, q2⟩ := cells3 hrow
      have HNN := hid hn
      by_cases hlt : k < N
      · obtain ⟨x, hx⟩ : ∃ x, ims[k]? = some x := ⟨ims[k]'(by rw [← HN.out]; exact hlt), List.getElem?_eq_getElem _⟩
        have hxm := HOK.out.1 x (List.mem_of_getElem? hx)
        obtain ⟨b, off, Ax, cc, rfl, c0, c1x, hrx, hcc⟩ := (HRR.out.below hbz) k x hx
        have HT := hid (take_snoc ims k x hx)
        obtain ⟨xb, xd⟩ := x
        simp only at c0 c1x hcc hxm hrx
        obtain ⟨hx1, hx2, hx4⟩ := hxm
        have CB := CopyBytes_any wr Ax cc 4096 xd hx4.symm (by omega) hrx
        have HX4 := hid hx4
        rw [hx4] at c1x hcc
        have P1 := hid p1; have P2 := hid p2; have P3 := hid p3; have HROW := hid hrow
        clear hx hx4 p1 p2 p3 hb01 hrow hbz hrx hn
        go_wp2_with fail
        refine CB.mono ?_
        rintro e w4 ⟨A4, c4, rfl, ho4, b4⟩
        clear CB c0 c1x q0 q1 q2
        obtain ⟨g4, eA, hg4a, hg4b⟩ := own_adr4 ho4 (by rw [HX4.out]; decide)
        subst eA
        have HO4 := hid ho4; have HB4 := hid b4
        have hrow4 := (b4.block _ (heap_in HROW.out)).trans HROW.out
        have hG4 : w.heap.size ≠ g4 := by have := heap_in HROW.out; omega
        have HROW4 := hid hrow4
        have hz4 := b4.size
        clear ho4 b4 hrow4
        go_wp2_with fail
        obtain ⟨Bo, hBo⟩ : ∃ Bo, Bo = wr.heap.size := ⟨_, rfl⟩
        have hO4 : OwnB Bo w4 (some ⟨g4, 0, none⟩) c4 xd := by rw [hBo]; exact HO4.out
        have HO4' := hid hO4; have HBo := hid hBo
        clear hO4 hBo
        go_loopw [7] (fun i wr => ∃ (q : Nat), q ≤ 4096 ∧ i = .int .i64 q ∧ OwnB Bo wr (some ⟨g4, 0, none⟩) c4 (putTo (fun k => bat (stampB E Q) (k % 512)) xd q) ∧ Kpt (fun b => b = g4) w4 wr) (fun i _ => 4096 - (intOf i).toNat)
        case atStart => exact ⟨0, Nat.zero_le _, rfl, by rw [putTo_zero]; exact HO4'.out, Kpt.refl _ _⟩
        case round => as_aux_lemma =>
          obtain ⟨q, hq, rfl, ho, hkp⟩ := hrel
          have hrow := hkp.row HROW4.out hG4
          obtain ⟨q0, q1, q2⟩ := cells3 hrow
          have HKP := hid hkp; have HO := hid ho
          by_cases hlq : q < 4096
          · have ht : (q : Int).tmod 512 = (q : Int) % 512 := Int.tmod_eq_emod_of_nonneg (by omega)
            by_cases hm : q % 512 < 8
            · have hm2 : ((q : Int) % 512 < 8) := by omega
              have hm3 : ((q : Int) % 512).toNat = q % 512 := by omega
              have hm4 : 0 ≤ (q : Int) % 512 := by omega
              have ST := refStamp_any wr E Q (E : Int) (Q : Int) rfl rfl (by omega) (by omega) (by omega) (.slice (some ⟨b, off, none⟩) N c)
              have HM := hid hm
              have hpl : (putTo (fun k => bat (stampB E Q) (k % 512)) xd q).length = 4096 := by rw [putTo_length]; exact HX4.out
              clear hrow hkp ho
              go_wp2_with fail
              refine ST.mono ?_
              rintro e w5 ⟨gs5, c5, rfl, ho5, b5⟩
              clear ST q0 q1 q2
              obtain ⟨_, _, e, y0⟩ := ho5.rd.at_ (by intro e; rw [e] at hst8; exact absurd hst8 (by decide))
              have e := Option.some.inj e
              simp only [Addr.mk.injEq, and_true] at e
              obtain ⟨rfl, rfl⟩ := e
              have y1 := y0 (q % 512) (by have := HM.out; omega)
              rw [Nat.zero_add] at y1
              have ho4 := HO.out.below b5
              obtain ⟨_, e, _, x0, xf⟩ := ho4.at_ (by intro e; rw [e] at hpl; exact absurd hpl (by decide))
              have e := Option.some.inj e
              simp only [Addr.mk.injEq, and_true] at e
              subst e
              have x1 := x0 q (by omega)
              have xf1 := xf q
              have HFIN : Hid (OwnB Bo (w5.setCell ⟨g4, q, none⟩ (.int .u8 ((bat (stampB E Q) (q % 512)).toNat : Int))) (some ⟨g4, 0, none⟩) c4 (putTo (fun k => bat (stampB E Q) (k % 512)) xd (q + 1))) := hid (by
                have h1 := ho4.store q (bat (stampB E Q) (q % 512))
                have h2 := putTo_set (fun k => bat (stampB E Q) (k % 512)) xd q (by rw [HX4.out]; exact hlq) HM.out
                rw [← h2]
                exact h1)
              have HK5 : Hid (Kpt (fun b => b = g4) w4 (w5.setCell ⟨g4, q, none⟩ (.int .u8 ((bat (stampB E Q) (q % 512)).toNat : Int)))) := hid ((HKP.out.trans (Kpt.of_below b5)).stc rfl _)
              generalize bat (stampB E Q) (q % 512) = y at *
              clear y0 x0 xf ho4 ho5 b5 hpl
              go_wp2_with fail
              go_roundw
              case rel => exact ⟨q + 1, by omega, by go_num, HFIN.out, HK5.out⟩
              case measure => simp [intOf]; omega
            · have hm2 : ¬ ((q : Int) % 512 < 8) := by omega
              have HM := hid hm
              clear hrow hkp ho hm
              go_wp2_with fail
              go_roundw
              case rel => exact ⟨q + 1, by omega, by go_num, by rw [putTo_skip _ _ _ HM.out]; exact HO.out, HKP.out⟩
              case measure => simp [intOf]; omega
          · obtain rfl : q = 4096 := by omega
            clear hrow hkp ho q0 q1 q2
            have hmk : putTo (fun k => bat (stampB E Q) (k % 512)) xd 4096 = markB (stampB E Q) xd := rfl
            rw [hmk] at HO
            have hkp := HKP.out
            have hw4z := HB4.out.size
            have hBo := HBo.out
            have hz3 := P3.out.size
            have p1' := ownsRow_kpt (own_below P1.out HB4.out) hkp (fun b hb e => by have := own_lt P1.out b hb; omega)
            have p2' := (P2.out.below HB4.out).kpt hkp (fun p hp e => by have := (P2.out.lt hp).2; omega)
            have p3' := belowK (P3.out.trans (HB4.out.mono hz3)) hkp (fun b hb => by omega) (by omega)
            have hg4n : g4 ∉ gs.map (·.1) := fun h => by
              obtain ⟨p, hp, e⟩ := List.mem_map.1 h
              have := (P2.out.lt hp).2
              omega
            have hml : (markB (stampB E Q) xd).length = 4096 := by rw [markB_length]; exact HX4.out
            have p2s := p2'.snoc (HO.out.mono (by omega)) hml hg4n
            obtain ⟨W5, hW5⟩ : ∃ W5, W5 = wr.alloc (.cells #[.slice (some ⟨g4, 0, none⟩) 4096 c4] 31) := ⟨_, rfl⟩
            have b5 : Below wr.heap.size wr W5 := by rw [hW5]; exact (Below.refl _ _).alloc (Nat.le_refl _) _
            have q15 := own_below p1' b5
            have q25 := p2s.below b5
            have q35 := p3'.trans (b5.mono p3'.size)
            have rl : RdV W5 (some ⟨wr.heap.size, 0, none⟩) [.slice (some ⟨g4, 0, none⟩) 4096 c4] := by rw [hW5]; exact RdV.one
            have nB : ∀ p ∈ gs ++ [(g4, c4)], (Value.slice A n c').ownBlock ≠ some p.1 := fun p hp h => by
              obtain ⟨cs, hc⟩ := q25.u8 hp
              exact absurd (row_no q15 h hc) (by decide)
            have Q25 := hid q25; have NB := hid nB
            rw [hW5] at q15 q35 rl
            have hnb : n ≤ 33 := by have := HNN.out; omega
            clear p1' p2' p3' p2s hkp b5 q25 nB hmk
            go_wp2_with (with_reducible refine app_own rfl (.tmp 44) (.tmp 46) 22 31 (.slice none 0 0) 1 24 rfl Try.underlying22 info_L rfl (by decide) (by decide) w1.heap.size (.slice A n c') n (vals gs) rfl q15 (some ⟨wr.heap.size, 0, none⟩) 1 1 [.slice (some ⟨g4, 0, none⟩) 4096 c4] rfl rfl rl (by simp [Value.oneCell']) (by omega) w1 q35 q35.size ?_; intro A1 c1 w6 h6a h6b h6c h6d; rw [← hW5] at h6c; have H6A := hid h6a; have H6B := hid h6b; have H6C := hid h6c; clear h6a h6b h6c h6d q15 q35 rl)
            go_roundw
            case rel =>
              have K6 := Kpt.of_grown (S := fun b => (Value.slice A n c').ownBlock = some b) H6C.out (fun j e => e)
              refine ⟨k + 1, A1, c1, n + 1, gs ++ [(g4, c4)], by omega, by go_num, by have := HNN.out; omega, rfl, ?_, ?_, H6B.out⟩
              · rw [vals_snoc]
                exact H6A.out
              · rw [HT.out, List.map_append]
                exact Q25.out.kpt K6 NB.out
            case measure => simp [intOf]; omega
      · obtain rfl : k = N := by omega
        rw [List.take_of_length_le (by rw [HN.out]; exact Nat.le_refl _)] at p2
        subst hn
        obtain ⟨L, cL, eL, hL1, hL2⟩ := own_slice1 p1 (by omega)
        simp only [Value.slice.injEq, true_and] at eL
        obtain ⟨rfl, rfl⟩ := eL
        have HFIN : Hid (OwLs w.heap.size wr L c' gs (putB E Q ims)) := hid ⟨by
          have : (putB E Q ims).length = k + 1 := by simp [putB, HN.out]
          rw [this]
          exact own_mono p1 (by omega), (p2.mono (by omega))⟩
        have HBZ := hid hbz
        clear p1 p2 p3 hb01 hrow hbz
        go_wp2
        go_ret2
        exact ⟨HBZ.out, L, c', rfl, gs, HFIN.out⟩
end Go.Proofs.Ytknhfaplddgnlaa
