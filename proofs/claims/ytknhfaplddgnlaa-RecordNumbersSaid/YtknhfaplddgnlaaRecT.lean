/- The document's read (printed by gen06k.py). -/
import Derived.Test.YtknhfaplddgnlaaRecS
namespace Go.Proofs.Ytknhfaplddgnlaa
open Go.RowKit
set_option maxHeartbeats 1500000
set_option maxRecDepth 100000
set_option linter.unusedVariables false
set_option linter.unusedSimpArgs false

def RdInv (B Gb E Q : Nat) (wI : World) (inn : List UInt8) (k : Nat) (wr : World) : Prop :=
  ∃ ia ic gs, wr.heap[Gb]? = some (.cells #[.int .i64 (E : Int), .int .i64 (Q : Int), .slice ia k ic] 28 (0, 0)) ∧ OwIm B wr ia ic (nsOf inn k) gs (shI inn k) ∧ Kpt (fun b => b = Gb) wI wr
theorem read_no (w : World) (a : Option Addr) (N c : Nat) (l : List UInt8) (hN : N = l.length) (hn : l.length ≠ 4096) :
    Calls Try.prog 46 #[.slice a N c] w (RfPost w l) := by
  have hh := hid (isHead_short (l := l) (.inl hn))
  have hne : ((N : Int) == 4096) = false := by simpa using (show ¬ (N : Int) = 4096 by omega)
  have hne2 : ((N : Int) != 4096) = true := by simpa using (show ¬ (N : Int) = 4096 by omega)
  have hrow0 := heap_alloc_new w (.cells #[.int .i64 0, .int .i64 0, .slice none 0 0] 28)
  have hb0 : Below w.heap.size w (w.alloc (.cells #[.int .i64 0, .int .i64 0, .slice none 0 0] 28)) := (Below.refl _ _).alloc (Nat.le_refl _) _
  obtain ⟨v0, v1, v2⟩ := cells3 hrow0
  have f0 := frozen_of_row _ w.heap.size 0 _ _ hrow0
  have f1 := frozen_of_row _ w.heap.size 1 _ _ hrow0
  have f2 := frozen_of_row _ w.heap.size 2 _ _ hrow0
  have HB := hid hb0
  clear hN hn hrow0 hb0
  go_enter Try.func46, Try.ntmps46
  go_wp2
  refine bodyPost_ret (v := .tuple #[.agg #[.int .i64 0, .int .i64 0, .slice none 0 0], .bool false]) ?_ rfl ⟨HB.out, 0, 0, none, 0, 0, by rw [hh.out], fun h => by rw [hh.out] at h; cases h⟩
  simp [results, Try.results46, go_sem, v0, v1, v2]
theorem read_yes (w : World) (b off c : Nat) (l : List UInt8) (hl : l.length = 4096) (hc : 4096 ≤ c ∧ c ≤ 9223372036854775807) (hr : RdB w (some ⟨b, off, none⟩) l) :
    Calls Try.prog 46 #[.slice (some ⟨b, off, none⟩) 4096 c] w (RfPost w l) := by
  have hrow0 := heap_alloc_new w (.cells #[.int .i64 0, .int .i64 0, .slice none 0 0] 28)
  have hb0 : Below w.heap.size w (w.alloc (.cells #[.int .i64 0, .int .i64 0, .slice none 0 0] 28)) := (Below.refl _ _).alloc (Nat.le_refl _) _
  obtain ⟨e3, e5⟩ := ep_seq hl
  have k3 : numOk l 0 3 = true := by simp [numOk, hl]
  have k5 : numOk l 3 5 = true := by simp [numOk, hl]
  have N3 := fun W (h : RdB W (some ⟨b, off, none⟩) l) => Number_any W (some ⟨b, off, none⟩) c 4096 l hl.symm 0 3 (by omega) h (by decide) (by decide)
  have N5 := fun W (h : RdB W (some ⟨b, off, none⟩) l) => Number_any W (some ⟨b, off, none⟩) c 4096 l hl.symm 3 5 (by omega) h (by decide) (by decide)
  rw [k3, e3] at N3
  rw [k5, e5] at N5
  have hE : epOf l < 16777216 := by rw [← e3]; exact numV_lt _ _ _
  have hQ : seqOf l < 1099511627776 := by rw [← e5]; exact numV_lt _ _ _
  have HAL := hid (isHead_alt hl)
  have HSH := hid (fun h => isHead_short (l := l) (.inr h))
  have HL := hid hl
  have hinn := gathB_length hl
  clear k3 k5 e3 e5 hl
  generalize hEe : epOf l = E at *
  generalize hQe : seqOf l = Q at *
  have wE : IntKind.i64.wrap (E : Int) = (E : Int) := IntWalk.i64_in _ (by omega)
  have wQ : IntKind.i64.wrap (Q : Int) = (Q : Int) := IntWalk.i64_in _ (by omega)
  have HEE := hid hEe; have HQQ := hid hQe
  have hr0 := hr.below hb0
  have N3' := N3 _ hr0
  have N5' := N5 _ hr0
  have hb1 : Below w.heap.size w ((w.alloc (.cells #[.int .i64 0, .int .i64 0, .slice none 0 0] 28)).alloc (.cells #[.int .i64 (E : Int), .int .i64 (Q : Int), .slice none 0 0] 28)) := hb0.alloc (by simp) _
  have hG1 := heap_alloc_new (w.alloc (.cells #[.int .i64 0, .int .i64 0, .slice none 0 0] 28)) (.cells #[.int .i64 (E : Int), .int .i64 (Q : Int), .slice none 0 0] 28)
  rw [World.size_alloc] at hG1
  have hR1 := (Below.heap_alloc (w.alloc (.cells #[.int .i64 0, .int .i64 0, .slice none 0 0] 28)) (.cells #[.int .i64 (E : Int), .int .i64 (Q : Int), .slice none 0 0] 28) _ (heap_in hrow0)).trans hrow0
  have hz1 : ((w.alloc (.cells #[.int .i64 0, .int .i64 0, .slice none 0 0] 28)).alloc (.cells #[.int .i64 (E : Int), .int .i64 (Q : Int), .slice none 0 0] 28)).heap.size = w.heap.size + 2 := by simp
  obtain ⟨w1, hw1⟩ : ∃ w1, w1 = (w.alloc (.cells #[.int .i64 0, .int .i64 0, .slice none 0 0] 28)).alloc (.cells #[.int .i64 (E : Int), .int .i64 (Q : Int), .slice none 0 0] 28) := ⟨_, rfl⟩
  rw [← hw1] at hb1 hG1 hR1 hz1
  have HW1 := hid hw1; have HB1 := hid hb1; have HG1 := hid hG1; have HR1 := hid hR1; have HRB := hid hr
  have hbw := hid (rd_block hr (by rw [HL.out]; decide))
  clear hw1 hb1 hG1 hR1 N3 N5 hEe hQe hr
  go_enter Try.func46, Try.ntmps46
  go_wp2_with fail
  refine N3'.mono ?_
  rintro e w' ⟨rfl, rfl⟩
  clear N3'
  go_wp2_with fail
  refine N5'.mono ?_
  rintro e w' ⟨rfl, rfl⟩
  clear N5'
  go_wp2_with fail
  rw [← HW1.out]
  clear HW1 hrow0 hb0 hr0
  go_loopw [9, 10] (fun s i wr => ∃ (k : Nat) (A : Option Addr) (c' m : Nat), k ≤ 4096 ∧ i = .int .i64 k ∧ m = cnt k ∧ s = .slice A m c' ∧ OwnB w1.heap.size wr A c' ((gathB l).take (cnt k)) ∧ Below w1.heap.size w1 wr) (fun _ i _ => 4096 - (intOf i).toNat)
  case atStart => exact ⟨0, none, 0, 0, Nat.zero_le _, rfl, rfl, rfl, OwnB.nil _ _, Below.refl _ _⟩
  case round => as_aux_lemma =>
    obtain ⟨k, A, c', m, hk, rfl, hm, rfl, ho, hb⟩ := hrel
    have HM := hid hm; have HO := hid ho; have HB := hid hb
    have hbs := hb.size
    by_cases hlt : k < 4096
    · have ht : (k : Int).tmod 512 = (k : Int) % 512 := Int.tmod_eq_emod_of_nonneg (by omega)
      by_cases hmm : k % 512 < 8
      · have hm2 : ((k : Int) % 512 < 8) := by omega
        have HS := hid (cnt_skip hmm)
        clear hm ho hb hmm
        go_wp2_with fail
        go_roundw
        case rel => exact ⟨k + 1, A, c', m, by omega, by go_num, by rw [HS.out]; exact HM.out, rfl, by rw [HS.out]; exact HO.out, HB.out⟩
        case measure => simp [intOf]; omega
      · have hm2 : ¬ ((k : Int) % 512 < 8) := by omega
        have HS := hid (cnt_step hmm)
        have HG := hid (gath_step HL.out hlt hmm)
        have hcl := cnt_lt hlt hmm
        have hlm : ((gathB l).take (cnt k)).length = m := by rw [List.length_take]; omega
        have hrb := HRB.out.below (HB1.out.trans (hb.mono HB1.out.size))
        obtain ⟨_, _, e, x0⟩ := hrb.at_ (by intro e; have := HL.out; rw [e] at this; exact absurd this (by decide))
        have e := Option.some.inj e
        simp only [Addr.mk.injEq, and_true] at e
        obtain ⟨rfl, rfl⟩ := e
        have x1 := x0 k (by rw [HL.out]; exact hlt)
        have hmb : m ≤ 4032 := by omega
        generalize bat l k = y at *
        generalize (gathB l).take (cnt k) = ld at *
        clear hm hb hmm x0 hcl hrb
        go_wp2_with (at_builtin; refine app_bytes rfl (.tmp 45) (.tmp 50) rfl w1.heap.size A c' m ld hlm.symm rfl (ho.below ((Below.refl _ _).alloc (Nat.le_refl _) _)) (some ⟨wr.heap.size, 0, none⟩) 1 1 [y] rfl rfl (RdV.one (v := B8 _)) (m + 1) (by rw [hlm]; rfl) (by rw [hlm]; simp; omega) w1 (HB.out.alloc hbs _) (by simp; omega) ?_; intro A1 c1 w2 ho2 hb2 _ _; have HO2 := hid ho2; have HBB2 := hid hb2; clear ho2 hb2 ho)
        go_roundw
        case rel => exact ⟨k + 1, A1, c1, m + 1, by omega, by go_num, by rw [HS.out, HM.out], rfl, by have := HO2.out; rwa [HG.out] at this, HBB2.out⟩
        case measure => simp [intOf]; omega
    · obtain rfl : k = 4096 := by omega
      have hc40 : cnt 4096 = 4032 := rfl
      rw [hc40] at hm ho
      rw [List.take_of_length_le (by rw [hinn]; decide)] at ho
      subst hm
      obtain ⟨gi, eA, hgi1, hgi2⟩ := own_adr4 ho (by rw [hinn]; decide)
      subst eA
      have hcap := ho.cap
      rw [hinn] at hcap
      obtain ⟨hcap1, hcap2⟩ := hcap
      have U16n := Number_any wr (some ⟨gi, 0, none⟩) c' 4032 (gathB l) hinn.symm 0 2 (by omega) ho.rd (by decide) (by decide)
      have hok0 : numOk (gathB l) 0 2 = true := by simp [numOk, hinn]
      have hnn : numV (gathB l) 0 2 = nOf (gathB l) := rfl
      rw [hok0, hnn] at U16n
      have hx0 : nOf (gathB l) < 65536 := numV_lt _ _ _
      have hbw1 := HB1.out.trans (hb.mono HB1.out.size)
      have hGr := (hb.block _ (heap_in HG1.out)).trans HG1.out
      have hRr := (hb.block _ (heap_in HR1.out)).trans HR1.out
      generalize hie : gathB l = inn at *
      have HIE := hid hie
      generalize hne : nOf inn = n at *
      have HNE := hid hne
      have HO2 := hid ho; have HBW := hid hbw1; have HGR := hid hGr; have HRR := hid hRr
      clear hok0 hnn hb ho hbw1 hGr hRr hie hne HM HO HB
      by_cases hn : 32 < n
      · have hF := hid (HSH.out hn)
        have hs := set3 HRR.out (.int .i64 0) (.int .i64 0) (.slice none 0 0)
        obtain ⟨v0, v1, v2⟩ := cells3 hs.1
        obtain ⟨r0, r1, r2⟩ := cells3 HRR.out
        have f0 := frozen_of_row _ w.heap.size 0 _ _ HRR.out
        have f1 := frozen_of_row _ w.heap.size 1 _ _ HRR.out
        have f2 := frozen_of_row _ w.heap.size 2 _ _ HRR.out
        have HB := hid (belowK HBW.out hs.2 (fun b hb => by omega) HBW.out.size)
        clear hs
        go_wp2_with fail
        refine U16n.mono ?_
        rintro e w' ⟨rfl, rfl⟩
        clear U16n
        go_wp2
        refine bodyPost_ret (v := .tuple #[.agg #[.int .i64 0, .int .i64 0, .slice none 0 0], .bool false]) ?_ rfl ⟨HB.out, 0, 0, none, 0, 0, by rw [hF.out], fun h => by rw [hF.out] at h; cases h⟩
        simp [results, Try.results46, go_sem, v0, v1, v2]
      · have hn32 : n ≤ 32 := by omega
        have wn : IntKind.i64.wrap (n : Int) = (n : Int) := IntWalk.i64_in _ (by omega)
        go_wp2_with fail
        refine U16n.mono ?_
        rintro e w' ⟨rfl, rfl⟩
        clear U16n
        go_wp2_with fail
        obtain ⟨wI, rfl⟩ : ∃ wI : World, wI = wr := ⟨_, rfl⟩
        go_loopw [13] (fun i wr => ∃ k : Nat, k ≤ n ∧ i = .int .i64 k ∧ RdInv wI.heap.size (w.heap.size + 1) E Q wI inn k wr) (fun i _ => n - (intOf i).toNat)
        case atStart => exact ⟨0, Nat.zero_le _, rfl, none, 0, [], HGR.out, ⟨World.ownsRow_nil _ _ _ _, Blk.nil _ _, rfl⟩, Kpt.refl _ _⟩
        case round => as_aux_lemma =>
          obtain ⟨k, hk, rfl, ia, ic, gs, p1, p2, p3⟩ := hrel
          have hzr := p3.size
          have hgG : gi ≠ w.heap.size + 1 := by omega
          have hoi := HO2.out.kpt p3 hgG
          by_cases hlt : k < n
          · have NK := Number_any wr (some ⟨gi, 0, none⟩) c' 4032 inn hinn.symm (6 + 66 * (k : Int)) 2 (by omega) hoi.rd (by omega) (by decide)
            have hokp : numOk inn (6 + 66 * (k : Int)) 2 = true := by simp [numOk, hinn]; omega
            have hpe : ((6 + 66 * k : Nat) : Int) = 6 + 66 * (k : Int) := by push_cast; rfl
            have hnx : nsOf inn (k + 1) = nsOf inn k ++ [((numV inn (6 + 66 * (k : Int)) 2 : Nat) : Int)] := by rw [nsOf_succ, hpe]
            have hxlt : numV inn (6 + 66 * (k : Int)) 2 < 65536 := numV_lt inn _ _
            rw [hokp] at NK
            generalize numV inn (6 + 66 * (k : Int)) 2 = x at *
            have wx : IntKind.i64.wrap (x : Int) = (x : Int) := IntWalk.i64_in _ (by omega)
            have hmk := fun W => run_mkB 4096 4096 4096 rfl rfl (by omega) W
            have hz4 := fun (W : World) (hb : W.heap.size ≤ W.heap.size) => OwnB.made W 4096 hb (by omega)
            obtain ⟨Z, hZ⟩ : ∃ Z : Array Value, Z = madeCells #[.int .u8 0] 4096 := ⟨_, rfl⟩
            simp only [← hZ] at hmk hz4
            clear hZ
            obtain ⟨w3, hw3⟩ : ∃ w3, w3 = wr.alloc (.cells Z 5) := ⟨_, rfl⟩
            have b3 : Below wr.heap.size wr w3 := by rw [hw3]; exact (Below.refl _ _).alloc (Nat.le_refl _) _
            have o3 : OwnB wr.heap.size w3 (some ⟨wr.heap.size, 0, none⟩) 4096 (zeros 4096) := by rw [hw3]; exact hz4 wr (Nat.le_refl _)
            have i3 := hoi.below b3
            have hz3 : w3.heap.size = wr.heap.size + 1 := by rw [hw3]; simp
            obtain ⟨gz, hgz⟩ : ∃ gz, gz = wr.heap.size := ⟨_, rfl⟩
            rw [← hgz] at o3
            have P1 := hid p1; have P2 := hid p2; have P3 := hid p3; have O3 := hid o3; have I3 := hid i3; have B3 := hid b3; have HW3 := hid hw3; have HNX := hid hnx; have HGZ := hid hgz
            have hgiz : gi ≠ gz := by have := hoi.lt.2; omega
            clear hokp hpe hnx p1 p2 p3 o3 i3 b3 hw3 hoi hz4
            go_wp2_with fail
            refine NK.mono ?_
            rintro e w' ⟨rfl, rfl⟩
            clear NK
            go_wp2_with fail
            rw [← HW3.out]
            rw [← hgz]
            clear hmk HW3 hgz
            obtain ⟨wo, rfl⟩ : ∃ wo : World, wo = wr := ⟨_, rfl⟩
            go_loopw [18] (fun i wr => ∃ q : Nat, q ≤ 64 ∧ i = .int .i64 q ∧ OwnB gz wr (some ⟨gz, 0, none⟩) 4096 (putTo (fun j => bat (hidI inn k) (j / 512 * 8 + j % 512)) (zeros 4096) (pos q)) ∧ Kpt (fun b => b = gz) w3 wr) (fun i _ => 64 - (intOf i).toNat)
            case atStart => exact ⟨0, Nat.zero_le _, rfl, by rw [show pos 0 = 0 from rfl, putTo_zero]; exact O3.out, Kpt.refl _ _⟩
            case round => as_aux_lemma =>
              obtain ⟨q, hq, rfl, ho, hkp⟩ := hrel
              have hii := I3.out.kpt hkp hgiz
              have HO := hid ho; have HKP := hid hkp
              by_cases hlq : q < 64
              · obtain ⟨_, _, e, y0⟩ := hii.rd.at_ (by intro e; rw [e] at hinn; exact absurd hinn (by decide))
                have e := Option.some.inj e
                simp only [Addr.mk.injEq, and_true] at e
                obtain ⟨rfl, rfl⟩ := e
                have y1 := y0 (8 + 66 * k + q) (by omega)
                rw [Nat.zero_add] at y1
                have hpl : (putTo (fun j => bat (hidI inn k) (j / 512 * 8 + j % 512)) (zeros 4096) (pos q)).length = 4096 := by rw [putTo_length, zeros_length]
                obtain ⟨_, e, _, x0, xf⟩ := ho.at_ (by intro e; rw [e] at hpl; exact absurd hpl (by decide))
                have e := Option.some.inj e
                simp only [Addr.mk.injEq, and_true] at e
                subst e
                have hpq : pos q < 4096 := by unfold pos; omega
                have x1 := x0 (pos q) (by omega)
                have xf1 := xf (pos q)
                have hfy : bat (hidI inn k) (pos q / 512 * 8 + pos q % 512) = bat inn (8 + 66 * k + q) := by
                  have : pos q / 512 * 8 + pos q % 512 = q := by unfold pos; omega
                  rw [this]
                  exact bat_part _ _ _ _ hlq
                have HFIN : Hid (OwnB gz (wr.setCell ⟨gz, pos q, none⟩ (.int .u8 ((bat inn (8 + 66 * k + q)).toNat : Int))) (some ⟨gz, 0, none⟩) 4096 (putTo (fun j => bat (hidI inn k) (j / 512 * 8 + j % 512)) (zeros 4096) (pos (q + 1)))) := hid (by
                  have h1 := ho.store (pos q) (bat inn (8 + 66 * k + q))
                  have h2 := putTo_pos (fun j => bat (hidI inn k) (j / 512 * 8 + j % 512)) (zeros 4096) (zeros_length _) q hlq
                  rw [← h2]
                  simp only [hfy]
                  exact h1)
                have HK5 : Hid (Kpt (fun b => b = gz) w3 (wr.setCell ⟨gz, pos q, none⟩ (.int .u8 ((bat inn (8 + 66 * k + q)).toNat : Int)))) := hid (hkp.stc rfl _)
                generalize bat inn (8 + 66 * k + q) = y at *
                have t1 : (q : Int).tdiv 8 = (q : Int) / 8 := Int.tdiv_eq_ediv_of_nonneg (by omega)
                have t2 : (q : Int).tmod 8 = (q : Int) % 8 := Int.tmod_eq_emod_of_nonneg (by omega)
                have t3 : ((q : Int) / 8 * 512 + (q : Int) % 8).toNat = pos q := by unfold pos; omega
                have t4 : (6 + 66 * (k : Int) + 2 + (q : Int)).toNat = 8 + 66 * k + q := by omega
                have t5 : 0 ≤ (q : Int) / 8 * 512 + (q : Int) % 8 ∧ (q : Int) / 8 * 512 + (q : Int) % 8 < 4096 := by omega
                have t6 : 0 ≤ 6 + 66 * (k : Int) + 2 + (q : Int) ∧ 6 + 66 * (k : Int) + 2 + (q : Int) < 4032 := by omega
                obtain ⟨t5a, t5b⟩ := t5
                obtain ⟨t6a, t6b⟩ := t6
                have HT4 := hid t4
                generalize pos q = pq at *
                clear ho hkp hii y0 x0 xf hpl hfy
                go_wp2_with fail
                go_roundw
                case rel => exact ⟨q + 1, by omega, by go_num, HFIN.out, HK5.out⟩
                case measure => simp [intOf]; omega
              · obtain rfl : q = 64 := by omega
                have hsh : putTo (fun j => bat (hidI inn k) (j / 512 * 8 + j % 512)) (zeros 4096) (pos 64) = shownB (hidI inn k) (zeros 4096) := rfl
                rw [hsh] at ho
                have hgz := HGZ.out
                have hw1I := HB1.out.size
                have q1 := hkp.row ((B3.out.block _ (heap_in P1.out)).trans P1.out) (show ¬ w.heap.size + 1 = gz by omega)
                have q2 := (P2.out.below B3.out).kpt hkp (fun b hb e => by have := own_lt P2.out.row b (own_img P2.out.row hb); omega) (fun p hp e => by have := (P2.out.blk.lt hp).2; omega)
                have hgk : gs.length = k := by have := q2.len; rw [nsOf_length] at this; exact this.symm
                have hK : Kpt (fun b => b = w.heap.size + 1) wI wr := (P3.out.trans (Kpt.of_below B3.out)).up hkp (fun b hb => .inr (by omega))
                have hng : gz ∉ gs.map (·.1) := fun h => by
                  obtain ⟨p, hp, e⟩ := List.mem_map.1 h
                  have := (P2.out.blk.lt hp).2
                  omega
                obtain ⟨W5, hW5⟩ : ∃ W5, W5 = wr.alloc (.cells #[.int .i64 (x : Int), .slice (some ⟨gz, 0, none⟩) 4096 4096] 38) := ⟨_, rfl⟩
                have b5 : Below wr.heap.size wr W5 := by rw [hW5]; exact (Below.refl _ _).alloc (Nat.le_refl _) _
                have q15 := (b5.block _ (heap_in q1)).trans q1
                have q25 := q2.below b5
                have rl : RdV W5 (some ⟨wr.heap.size, 0, none⟩) [.int .i64 (x : Int), .slice (some ⟨gz, 0, none⟩) 4096 4096] := by rw [hW5]; exact RdV.new wr #[.int .i64 (x : Int), .slice (some ⟨gz, 0, none⟩) 4096 4096] 38
                have bZ := q25.blk.snoc ((ho.below b5).mono (show wI.heap.size ≤ gz by omega)) (by rw [shownB_length, zeros_length]) hng
                have hK5 := hK.trans (Kpt.of_below b5)
                have hz5 : wI.heap.size ≤ W5.heap.size := Nat.le_trans hK.size b5.size
                have q2r := q25.row
                rw [nsOf_length] at q2r
                have nT : ∀ (cs : Array Value) (t : TypeId) (b : Nat), W5.heap[b]? = some (.cells cs t (0, 0)) → t ≠ 38 → ¬ (Value.slice ia k ic).ownBlock = some b := fun _ _ _ hc ht h => ht (row_no q2r h hc)
                have hbI := hbs
                have hob : ∀ b, (Value.slice ia k ic).ownBlock = some b → wI.heap.size ≤ b := fun b hb => own_base q2r b hb
                have hGW : w.heap.size + 1 < w1.heap.size := by omega
                have Q15 := hid q15; have BZ := hid bZ; have HK5 := hid hK5; have NT := hid nT; have HOB := hid hob
                have c5 := (cells3 q15).2.2
                have q2R := hid q2r
                rw [hW5] at q2r rl hz5 c5
                have q1c := (cells3 q1).2.2
                clear hgz hbI q2 hK bZ hK5 q25 b5 q1 hkp ho hii hsh hng nT hob q15
                go_wp2_with (with_reducible refine app_own rfl (.tmp 96) (.tmp 101) 26 38 (.agg #[.int .i64 0, .slice none 0 0]) 2 32 rfl Try.underlying26 info_I rfl (by decide) (by decide) wI.heap.size (.slice ia k ic) k (imC (nsOf inn k) (vals gs)) rfl q2r (some ⟨wr.heap.size, 0, none⟩) 1 1 [.int .i64 (x : Int), .slice (some ⟨gz, 0, none⟩) 4096 4096] rfl rfl rl (by simp [Value.oneCell']) (by omega) _ (Below.refl _ _) hz5 ?_; intro A1 c1 w6 h6a h6b h6c h6d; rw [← hW5] at h6b h6c; have hG6 := (h6b.block (w.heap.size + 1) (by omega)).trans Q15.out; have c6 := (cells3 hG6).2.2; have f6 := frozen_of_row w6 (w.heap.size + 1) 2 _ _ hG6; have H6A := hid h6a; have H6C := hid h6c; have HG6 := hid hG6; clear h6a h6b h6c h6d hG6 q2r rl c5 q1c)
                go_roundw
                case rel =>
                  have K6 := Kpt.of_grown (S := fun b => (Value.slice ia k ic).ownBlock = some b) H6C.out (fun j e => e)
                  have K9 : Kpt (fun b => b = w.heap.size + 1) w6 (w6.setCell ⟨w.heap.size + 1, 2, none⟩ (.slice A1 (k + 1) c1)) := (Kpt.refl (fun b => b = w.heap.size + 1) w6).stc rfl _
                  have hGB : w.heap.size + 1 < wI.heap.size := by omega
                  have hlk : (nsOf inn k).length = (vals gs).length := by rw [vals_length, nsOf_length, hgk]
                  have bZ6 := BZ.out.kpt K6 (fun p hp => by
                    obtain ⟨cs, hc⟩ := BZ.out.u8 hp
                    exact NT.out _ _ _ hc (by decide))
                  refine ⟨k + 1, by omega, by go_num, A1, c1, gs ++ [(gz, 4096)], ?_, ⟨?_, ?_, ?_⟩, ?_⟩
                  · rw [heap_setCell_same _ _ 2 _ _ _ HG6.out]
                    rfl
                  · rw [nsOf_length]
                    have := ownsRow_kpt H6A.out K9 (fun b hb e => by have := own_base H6A.out b hb; omega)
                    rw [HNX.out, vals_snoc, imC_snoc _ _ _ _ hlk]
                    exact this
                  · rw [shI_succ]
                    exact bZ6.kpt K9 (fun p hp e => by have := (bZ6.lt hp).1; omega)
                  · rw [nsOf_length]
                    simp [hgk]
                  · exact (HK5.out.up K6 (fun b hb => .inr (HOB.out b hb))).up K9 (fun b hb => .inl hb)
                case measure => simp [intOf]; omega
          · obtain rfl : k = n := by omega
            have hRr := p3.row HRR.out (show ¬ w.heap.size = w.heap.size + 1 by omega)
            have hbw2 := belowK HBW.out p3 (fun b hb => by omega) HBW.out.size
            have hrl := HRB.out.below hbw2
            have hbd : Below wr.heap.size wr wr.drew := below_drw (Below.refl _ _)
            have q2 := p2.below hbd
            have hRd := (hbd.block _ (heap_in hRr)).trans hRr
            have hGd := (hbd.block _ (heap_in p1)).trans p1
            have hld := hrl.below hbd
            have hBd := hbw2.trans (hbd.mono hbw2.size)
            obtain ⟨g0, g1, g2⟩ := cells3 hGd
            have sX : wr.drew.cell? ⟨w.heap.size + 1, 0, none⟩ = some (.int .i64 (E : Int)) ∧ wr.drew.cell? ⟨w.heap.size + 1, 1, none⟩ = some (.int .i64 (Q : Int)) ∧ wr.drew.cell? ⟨w.heap.size + 1, 2, none⟩ = some (.slice ia k ic) := ⟨g0, g1, g2⟩
            have hlenr := rdIms_length inn k
            have RT := refRight_any wr.drew (E : Int) (Q : Int) ia k ic (rdIms inn k) hlenr.symm q2.rd
            have HAL2 := hid (HAL.out hn32)
            have hIz : w.heap.size + 2 ≤ wI.heap.size := by omega
            -- behind calls
            have FIN : ∀ w9, Below wr.drew.heap.size wr.drew w9 → Below w.heap.size w (((w9.setCell ⟨w.heap.size, 0, none⟩ (.int .i64 (E : Int))).setCell ⟨w.heap.size, 1, none⟩ (.int .i64 (Q : Int))).setCell ⟨w.heap.size, 2, none⟩ (.slice ia k ic)) ∧
                OwIm w.heap.size (((w9.setCell ⟨w.heap.size, 0, none⟩ (.int .i64 (E : Int))).setCell ⟨w.heap.size, 1, none⟩ (.int .i64 (Q : Int))).setCell ⟨w.heap.size, 2, none⟩ (.slice ia k ic)) ia ic (nsOf inn k) gs (shI inn k) ∧
                w9.heap[w.heap.size]? = some (.cells #[.int .i64 0, .int .i64 0, .slice none 0 0] 28 (0, 0)) := by
              intro w9 b9
              have hR9 := (b9.block _ (heap_in hRd)).trans hRd
              have hs := set3 hR9 (.int .i64 (E : Int)) (.int .i64 (Q : Int)) (.slice ia k ic)
              have q9 := q2.below b9
              refine ⟨belowK (hBd.trans (b9.mono hBd.size)) hs.2 (fun b hb => by omega) (hBd.trans (b9.mono hBd.size)).size, (q9.kpt hs.2 (fun b hb e => by have := own_base q9.row b (own_img q9.row hb); omega) (fun q hq e => by have := (q9.blk.lt hq).1; omega)).mono (by omega), hR9⟩
            have HFIN := hid FIN; have HQ2 := hid q2; have HLD := hid hld; have HLEN := hid hlenr
            clear hRr hbw2 hrl hbd q2 hRd hGd hld hBd g0 g1 g2 FIN p2 p3 hlenr
            have p1c := cells3 p1
            obtain ⟨g0, g1, g2⟩ := p1c
            clear p1
            rcases hR : rightG (E : Int) (Q : Int) (rdIms inn k)
            · rw [hR] at RT
              have HF : Hid (isHead l = false) := hid (by rw [HAL2.out, hR]; rfl)
              clear hR
              go_wp2_with fail
              refine wp_region_held_drew (S := fun W1 => W1.cell? ⟨w.heap.size + 1, 0, none⟩ = some (.int .i64 (E : Int)) ∧ W1.cell? ⟨w.heap.size + 1, 1, none⟩ = some (.int .i64 (Q : Int)) ∧ W1.cell? ⟨w.heap.size + 1, 2, none⟩ = some (.slice ia k ic)) (by kernel_rfl) (by exact sX) (fun hHeld => ?_)
              refine wpAnyH_take (i := 0) (oi := ?o0z1) (v := ?v0z1) ?hi0z1 (by kernel_rfl) (by kernel_rfl) ?hr0z1 ?hQ0z1 ?hy0z1 hHeld ?r0z1
              case hi0z1 => (simp only [List.getElem?_toArray, List.getElem?_cons_zero, List.getElem?_cons_succ]; rfl)
              case hr0z1 => kernel_rfl
              case hQ0z1 => exact fun _ _ _ h => h
              case hy0z1 => (refine Or.inl ⟨by rfl, ?_⟩; intro w hSw; (try dsimp only at hSw); go_simp; try with_reducible rfl)
              try simp only [Act.put, List.setIfInBounds_toArray, List.set_cons_zero, List.set_cons_succ]
              refine wpAnyH_take (i := 1) (oi := ?o1z1) (v := ?v1z1) ?hi1z1 (by kernel_rfl) (by kernel_rfl) ?hr1z1 ?hQ1z1 ?hy1z1 hHeld ?r1z1
              case hi1z1 => (simp only [List.getElem?_toArray, List.getElem?_cons_zero, List.getElem?_cons_succ]; rfl)
              case hr1z1 => kernel_rfl
              case hQ1z1 => exact fun _ _ _ h => h
              case hy1z1 => (refine Or.inl ⟨by rfl, ?_⟩; intro w hSw; (try dsimp only at hSw); go_simp; try with_reducible rfl)
              try simp only [Act.put, List.setIfInBounds_toArray, List.set_cons_zero, List.set_cons_succ]
              refine wpAnyH_ready (rs := [2]) (by kernel_rfl) (by simp) (AllReadyH.cons (o := ?o2z1) ?hi2z1 (fun K hK => ?r2z1) AllReadyH.nil)
              case hi2z1 => (simp only [List.getElem?_toArray, List.getElem?_cons_zero, List.getElem?_cons_succ]; rfl)
              go_simp
              refine RT.mono ?_
              rintro e w9 ⟨rfl, b9⟩
              have s9 := And.intro (cell_below b9 sX.1) (And.intro (cell_below b9 sX.2.1) (cell_below b9 sX.2.2))
              obtain ⟨y0, y1, y2⟩ := cells3 (HFIN.out w9 b9).2.2
              have f0 := frozen_of_row w9 w.heap.size 0 _ _ (HFIN.out w9 b9).2.2
              have f1 := frozen_of_row w9 w.heap.size 1 _ _ (HFIN.out w9 b9).2.2
              have f2 := frozen_of_row w9 w.heap.size 2 _ _ (HFIN.out w9 b9).2.2
              have hs := set3 (HFIN.out w9 b9).2.2 (.int .i64 (E : Int)) (.int .i64 (Q : Int)) (.slice ia k ic)
              obtain ⟨x0, x1, x2⟩ := cells3 hs.1
              have s9s := And.intro (hs.2.cell s9.1 (show ¬ w.heap.size + 1 = w.heap.size by omega)) (And.intro (hs.2.cell s9.2.1 (show ¬ w.heap.size + 1 = w.heap.size by omega)) (hs.2.cell s9.2.2 (show ¬ w.heap.size + 1 = w.heap.size by omega)))
              clear hs
              refine hK.out _ _ (by exact s9) (fun hHeld => ?_)
              clear hK K
              try simp only [Act.put, List.setIfInBounds_toArray, List.set_cons_zero, List.set_cons_succ]
              refine wpAnyH_take (i := 3) (oi := ?o3z1) (v := ?v3z1) ?hi3z1 (by kernel_rfl) (by kernel_rfl) ?hr3z1 ?hQ3z1 ?hy3z1 hHeld ?r3z1
              case hi3z1 => (simp only [List.getElem?_toArray, List.getElem?_cons_zero, List.getElem?_cons_succ]; rfl)
              case hr3z1 => kernel_rfl
              case hQ3z1 => exact fun _ _ _ h => h
              case hy3z1 => (refine Or.inl ⟨by rfl, ?_⟩; intro w hSw; (try dsimp only at hSw); go_simp; try with_reducible rfl)
              try simp only [Act.put, List.setIfInBounds_toArray, List.set_cons_zero, List.set_cons_succ]
              refine wpAnyH_take (i := 4) (oi := ?o4z1) (v := undef) ?hi4z1 (by kernel_rfl) (by kernel_rfl) ?hr4z1 ?hQ4z1 ?hy4z1 hHeld ?r4z1
              case hi4z1 => (simp only [List.getElem?_toArray, List.getElem?_cons_zero, List.getElem?_cons_succ]; rfl)
              case hr4z1 => kernel_rfl
              case hQ4z1 => exact fun _ _ _ h => h
              case hy4z1 => exact Or.inr ⟨by rfl, rfl⟩
              try simp only [Act.put, List.setIfInBounds_toArray, List.set_cons_zero, List.set_cons_succ]
              refine wpAnyH_take (i := 5) (oi := ?o5z1) (v := undef) ?hi5z1 (by kernel_rfl) (by kernel_rfl) ?hr5z1 ?hQ5z1 ?hy5z1 hHeld ?r5z1
              case hi5z1 => (simp only [List.getElem?_toArray, List.getElem?_cons_zero, List.getElem?_cons_succ]; rfl)
              case hr5z1 => kernel_rfl
              case hQ5z1 => exact fun _ _ _ h => h
              case hy5z1 => exact Or.inr ⟨by rfl, rfl⟩
              try simp only [Act.put, List.setIfInBounds_toArray, List.set_cons_zero, List.set_cons_succ]
              refine wpAnyH_take (i := 6) (oi := ?o6z1) (v := undef) ?hi6z1 (by kernel_rfl) (by kernel_rfl) ?hr6z1 ?hQ6z1 ?hy6z1 hHeld ?r6z1
              case hi6z1 => (simp only [List.getElem?_toArray, List.getElem?_cons_zero, List.getElem?_cons_succ]; rfl)
              case hr6z1 => kernel_rfl
              case hQ6z1 => exact fun _ _ _ h => h
              case hy6z1 => exact Or.inr ⟨by rfl, rfl⟩
              try simp only [Act.put, List.setIfInBounds_toArray, List.set_cons_zero, List.set_cons_succ]
              refine wpAnyH_take (i := 7) (oi := ?o7z1) (v := undef) ?hi7z1 (by kernel_rfl) (by kernel_rfl) ?hr7z1 ?hQ7z1 ?hy7z1 hHeld ?r7z1
              case hi7z1 => (simp only [List.getElem?_toArray, List.getElem?_cons_zero, List.getElem?_cons_succ]; rfl)
              case hr7z1 => kernel_rfl
              case hQ7z1 => exact fun _ _ _ h => h
              case hy7z1 => exact Or.inr ⟨by rfl, rfl⟩
              try simp only [Act.put, List.setIfInBounds_toArray, List.set_cons_zero, List.set_cons_succ]
              refine wpAnyH_take (i := 8) (oi := ?o8z1) (v := ?v8z1) ?hi8z1 (by kernel_rfl) (by kernel_rfl) ?hr8z1 ?hQ8z1 ?hy8z1 hHeld ?r8z1
              case hi8z1 => (simp only [List.getElem?_toArray, List.getElem?_cons_zero, List.getElem?_cons_succ]; rfl)
              case hr8z1 => kernel_rfl
              case hQ8z1 => exact fun _ _ _ h => h
              case hy8z1 => (refine Or.inl ⟨by rfl, ?_⟩; intro w hSw; (try dsimp only at hSw); go_simp; try with_reducible rfl)
              try simp only [Act.put, List.setIfInBounds_toArray, List.set_cons_zero, List.set_cons_succ]
              refine wpAnyH_ready (rs := [9]) (by kernel_rfl) (by simp) (AllReadyH.cons (o := ?o9z1) ?hi9z1 (fun K hK => ?r9z1) AllReadyH.nil)
              case hi9z1 => (simp only [List.getElem?_toArray, List.getElem?_cons_zero, List.getElem?_cons_succ]; rfl)
              go_simp
              refine hK.out _ _ (by exact s9s) (fun hHeld => ?_)
              clear hK K
              try simp only [Act.put, List.setIfInBounds_toArray, List.set_cons_zero, List.set_cons_succ]
              refine wpAnyH_take (i := 10) (oi := ?o10z1) (v := ?v10z1) ?hi10z1 (by kernel_rfl) (by kernel_rfl) ?hr10z1 ?hQ10z1 ?hy10z1 hHeld ?r10z1
              case hi10z1 => (simp only [List.getElem?_toArray, List.getElem?_cons_zero, List.getElem?_cons_succ]; rfl)
              case hr10z1 => kernel_rfl
              case hQ10z1 => exact fun _ _ _ h => h
              case hy10z1 => (refine Or.inl ⟨by rfl, ?_⟩; intro w hSw; (try dsimp only at hSw); go_simp; try with_reducible rfl)
              try simp only [Act.put, List.setIfInBounds_toArray, List.set_cons_zero, List.set_cons_succ]
              refine wpAnyH_done (by kernel_rfl) ?_ _
              have HFW := hid (HFIN.out w9 b9)
              go_wp2
              refine bodyPost_ret (v := .tuple #[.agg #[.int .i64 (E : Int), .int .i64 (Q : Int), .slice ia k ic], .bool false]) ?_ rfl ⟨HFW.out.1, E, Q, ia, k, ic, by rw [HF.out], fun h => by rw [HF.out] at h; cases h⟩
              simp [results, Try.results46, go_sem, x0, x1, x2]
            · rw [hR] at RT
              have HR2 := hid hR
              have HF : Hid (isHead l = (headB E Q (rdIms inn k) == l)) := hid (by rw [HAL2.out, hR]; rfl)
              have hhl := headB_length E Q (rdIms inn k) (by rw [HLEN.out]; exact hn32)
              have HHL := hid hhl
              clear hR hhl
              go_wp2_with fail
              refine wp_region_held_drew (S := fun W1 => W1.cell? ⟨w.heap.size + 1, 0, none⟩ = some (.int .i64 (E : Int)) ∧ W1.cell? ⟨w.heap.size + 1, 1, none⟩ = some (.int .i64 (Q : Int)) ∧ W1.cell? ⟨w.heap.size + 1, 2, none⟩ = some (.slice ia k ic)) (by kernel_rfl) (by exact sX) (fun hHeld => ?_)
              refine wpAnyH_take (i := 0) (oi := ?o0z2) (v := ?v0z2) ?hi0z2 (by kernel_rfl) (by kernel_rfl) ?hr0z2 ?hQ0z2 ?hy0z2 hHeld ?r0z2
              case hi0z2 => (simp only [List.getElem?_toArray, List.getElem?_cons_zero, List.getElem?_cons_succ]; rfl)
              case hr0z2 => kernel_rfl
              case hQ0z2 => exact fun _ _ _ h => h
              case hy0z2 => (refine Or.inl ⟨by rfl, ?_⟩; intro w hSw; (try dsimp only at hSw); go_simp; try with_reducible rfl)
              try simp only [Act.put, List.setIfInBounds_toArray, List.set_cons_zero, List.set_cons_succ]
              refine wpAnyH_take (i := 1) (oi := ?o1z2) (v := ?v1z2) ?hi1z2 (by kernel_rfl) (by kernel_rfl) ?hr1z2 ?hQ1z2 ?hy1z2 hHeld ?r1z2
              case hi1z2 => (simp only [List.getElem?_toArray, List.getElem?_cons_zero, List.getElem?_cons_succ]; rfl)
              case hr1z2 => kernel_rfl
              case hQ1z2 => exact fun _ _ _ h => h
              case hy1z2 => (refine Or.inl ⟨by rfl, ?_⟩; intro w hSw; (try dsimp only at hSw); go_simp; try with_reducible rfl)
              try simp only [Act.put, List.setIfInBounds_toArray, List.set_cons_zero, List.set_cons_succ]
              refine wpAnyH_ready (rs := [2]) (by kernel_rfl) (by simp) (AllReadyH.cons (o := ?o2z2) ?hi2z2 (fun K hK => ?r2z2) AllReadyH.nil)
              case hi2z2 => (simp only [List.getElem?_toArray, List.getElem?_cons_zero, List.getElem?_cons_succ]; rfl)
              go_simp
              refine RT.mono ?_
              rintro e w9 ⟨rfl, b9⟩
              have s9 := And.intro (cell_below b9 sX.1) (And.intro (cell_below b9 sX.2.1) (cell_below b9 sX.2.2))
              have HD := refHead_any w9 E Q ia k ic (rdIms inn k) HLEN.out.symm (HQ2.out.below b9).rd HR2.out
              refine hK.out _ _ (by exact s9) (fun hHeld => ?_)
              clear hK K
              try simp only [Act.put, List.setIfInBounds_toArray, List.set_cons_zero, List.set_cons_succ]
              refine wpAnyH_take (i := 3) (oi := ?o3z2) (v := ?v3z2) ?hi3z2 (by kernel_rfl) (by kernel_rfl) ?hr3z2 ?hQ3z2 ?hy3z2 hHeld ?r3z2
              case hi3z2 => (simp only [List.getElem?_toArray, List.getElem?_cons_zero, List.getElem?_cons_succ]; rfl)
              case hr3z2 => kernel_rfl
              case hQ3z2 => exact fun _ _ _ h => h
              case hy3z2 => (refine Or.inl ⟨by rfl, ?_⟩; intro w hSw; (try dsimp only at hSw); go_simp; try with_reducible rfl)
              try simp only [Act.put, List.setIfInBounds_toArray, List.set_cons_zero, List.set_cons_succ]
              refine wpAnyH_take (i := 4) (oi := ?o4z2) (v := ?v4z2) ?hi4z2 (by kernel_rfl) (by kernel_rfl) ?hr4z2 ?hQ4z2 ?hy4z2 hHeld ?r4z2
              case hi4z2 => (simp only [List.getElem?_toArray, List.getElem?_cons_zero, List.getElem?_cons_succ]; rfl)
              case hr4z2 => kernel_rfl
              case hQ4z2 => exact fun _ _ _ h => h
              case hy4z2 => (refine Or.inl ⟨by rfl, ?_⟩; intro w hSw; (try dsimp only at hSw); go_simp; try with_reducible rfl)
              try simp only [Act.put, List.setIfInBounds_toArray, List.set_cons_zero, List.set_cons_succ]
              refine wpAnyH_take (i := 6) (oi := ?o6z2) (v := ?v6z2) ?hi6z2 (by kernel_rfl) (by kernel_rfl) ?hr6z2 ?hQ6z2 ?hy6z2 hHeld ?r6z2
              case hi6z2 => (simp only [List.getElem?_toArray, List.getElem?_cons_zero, List.getElem?_cons_succ]; rfl)
              case hr6z2 => kernel_rfl
              case hQ6z2 => exact fun _ _ _ h => h
              case hy6z2 => (refine Or.inl ⟨by rfl, ?_⟩; intro w hSw; (try dsimp only at hSw); go_simp; try with_reducible rfl)
              try simp only [Act.put, List.setIfInBounds_toArray, List.set_cons_zero, List.set_cons_succ]
              refine wpAnyH_ready (rs := [5]) (by kernel_rfl) (by simp) (AllReadyH.cons (o := ?o5z2) ?hi5z2 (fun K hK => ?r5z2) AllReadyH.nil)
              case hi5z2 => (simp only [List.getElem?_toArray, List.getElem?_cons_zero, List.getElem?_cons_succ]; rfl)
              go_simp
              refine HD.mono ?_
              rintro e w10 ⟨A9, c9, rfl, ho9, b10⟩
              have b11 := b9.trans (b10.mono b9.size)
              have s10 := And.intro (cell_below b11 sX.1) (And.intro (cell_below b11 sX.2.1) (cell_below b11 sX.2.2))
              have SB := SameBytes_any w10 A9 (some ⟨b, off, none⟩) c9 c 4096 4096 (headB E Q (rdIms inn k)) l HHL.out.symm HL.out.symm ho9.rd (HLD.out.below b11)
              clear ho9
              obtain ⟨y0, y1, y2⟩ := cells3 (HFIN.out w10 b11).2.2
              have f0 := frozen_of_row w10 w.heap.size 0 _ _ (HFIN.out w10 b11).2.2
              have f1 := frozen_of_row w10 w.heap.size 1 _ _ (HFIN.out w10 b11).2.2
              have f2 := frozen_of_row w10 w.heap.size 2 _ _ (HFIN.out w10 b11).2.2
              have hs := set3 (HFIN.out w10 b11).2.2 (.int .i64 (E : Int)) (.int .i64 (Q : Int)) (.slice ia k ic)
              obtain ⟨x0, x1, x2⟩ := cells3 hs.1
              have s10s := And.intro (hs.2.cell s10.1 (show ¬ w.heap.size + 1 = w.heap.size by omega)) (And.intro (hs.2.cell s10.2.1 (show ¬ w.heap.size + 1 = w.heap.size by omega)) (hs.2.cell s10.2.2 (show ¬ w.heap.size + 1 = w.heap.size by omega)))
              clear hs
              refine hK.out _ _ (by exact s10) (fun hHeld => ?_)
              clear hK K
              try simp only [Act.put, List.setIfInBounds_toArray, List.set_cons_zero, List.set_cons_succ]
              refine wpAnyH_ready (rs := [7]) (by kernel_rfl) (by simp) (AllReadyH.cons (o := ?o7z2) ?hi7z2 (fun K hK => ?r7z2) AllReadyH.nil)
              case hi7z2 => (simp only [List.getElem?_toArray, List.getElem?_cons_zero, List.getElem?_cons_succ]; rfl)
              go_simp
              refine SB.mono ?_
              rintro e w' ⟨rfl, rfl⟩
              refine hK.out _ _ (by exact s10) (fun hHeld => ?_)
              clear hK K
              try simp only [Act.put, List.setIfInBounds_toArray, List.set_cons_zero, List.set_cons_succ]
              refine wpAnyH_take (i := 8) (oi := ?o8z2) (v := ?v8z2) ?hi8z2 (by kernel_rfl) (by kernel_rfl) ?hr8z2 ?hQ8z2 ?hy8z2 hHeld ?r8z2
              case hi8z2 => (simp only [List.getElem?_toArray, List.getElem?_cons_zero, List.getElem?_cons_succ]; rfl)
              case hr8z2 => kernel_rfl
              case hQ8z2 => exact fun _ _ _ h => h
              case hy8z2 => (refine Or.inl ⟨by rfl, ?_⟩; intro w hSw; (try dsimp only at hSw); go_simp; try with_reducible rfl)
              try simp only [Act.put, List.setIfInBounds_toArray, List.set_cons_zero, List.set_cons_succ]
              refine wpAnyH_ready (rs := [9]) (by kernel_rfl) (by simp) (AllReadyH.cons (o := ?o9z2) ?hi9z2 (fun K hK => ?r9z2) AllReadyH.nil)
              case hi9z2 => (simp only [List.getElem?_toArray, List.getElem?_cons_zero, List.getElem?_cons_succ]; rfl)
              go_simp
              refine hK.out _ _ (by exact s10s) (fun hHeld => ?_)
              clear hK K
              try simp only [Act.put, List.setIfInBounds_toArray, List.set_cons_zero, List.set_cons_succ]
              refine wpAnyH_take (i := 10) (oi := ?o10z2) (v := ?v10z2) ?hi10z2 (by kernel_rfl) (by kernel_rfl) ?hr10z2 ?hQ10z2 ?hy10z2 hHeld ?r10z2
              case hi10z2 => (simp only [List.getElem?_toArray, List.getElem?_cons_zero, List.getElem?_cons_succ]; rfl)
              case hr10z2 => kernel_rfl
              case hQ10z2 => exact fun _ _ _ h => h
              case hy10z2 => (refine Or.inl ⟨by rfl, ?_⟩; intro w hSw; (try dsimp only at hSw); go_simp; try with_reducible rfl)
              try simp only [Act.put, List.setIfInBounds_toArray, List.set_cons_zero, List.set_cons_succ]
              refine wpAnyH_done (by kernel_rfl) ?_ _
              have HFW := hid (HFIN.out w10 b11)
              go_wp2
              refine bodyPost_ret (v := .tuple #[.agg #[.int .i64 (E : Int), .int .i64 (Q : Int), .slice ia k ic], .bool (headB E Q (rdIms inn k) == l)]) ?_ rfl ⟨HFW.out.1, E, Q, ia, k, ic, by rw [HF.out], fun _ => ⟨by rw [HEE.out], by rw [HQQ.out], by rw [HIE.out, HNE.out], gs, by rw [HIE.out, HNE.out]; exact HFW.out.2.1⟩⟩
              simp [results, Try.results46, go_sem, x0, x1, x2]
theorem read_any (w : World) (a : Option Addr) (N c : Nat) (l : List UInt8) (hN : N = l.length) (hc : l.length ≤ c ∧ c ≤ 9223372036854775807) (hr : RdB w a l) :
    Calls Try.prog 46 #[.slice a N c] w (RfPost w l) := by
  by_cases hl : l.length = 4096
  · obtain ⟨b, off, rfl, -⟩ := hr.at_ (by intro e; rw [e] at hl; exact absurd hl (by decide))
    rw [hN, hl]
    exact read_yes w b off c l hl (by omega) hr
  · exact read_no w a N c l hN hl
end Go.Proofs.Ytknhfaplddgnlaa
