/- The document's Get (printed by gen06m.py). -/
import Derived.Test.YtknhfaplddgnlaaRecV
namespace Go.Proofs.Ytknhfaplddgnlaa
open Go.RowKit
set_option maxHeartbeats 1500000
set_option maxRecDepth 100000
set_option linter.unusedVariables false
set_option linter.unusedSimpArgs false

theorem OwLs.rd {base : Nat} {w : World} {L cL : Nat} {gs : List (Nat × Nat)} {ls : List (List UInt8)} (h : OwLs base w L cL gs ls) : RdLs w (some ⟨L, 0, none⟩) ls := by
  intro i l hl
  have hi : i < ls.length := (List.getElem?_eq_some_iff.1 hl).1
  have hlen := h.blk.len
  obtain ⟨⟨g, c⟩, hg⟩ : ∃ q, gs[i]? = some q := ⟨gs[i]'(by omega), List.getElem?_eq_getElem _⟩
  obtain ⟨ho, h4⟩ := h.blk.own i _ _ hg hl
  have hc := World.ownsRow.cellAt h.row i (by omega)
  have hv : (vals gs)[i]? = some (.slice (some ⟨g, 0, none⟩) 4096 c) := by simp [vals, hg]
  rw [hv] at hc
  exact ⟨L, 0, some ⟨g, 0, none⟩, c, rfl, by rw [Nat.zero_add, h4]; exact hc, ho.rd, ho.cap⟩
/-- An image's data is changed where it lies. -/
theorem OwIm.upd {base : Nat} {w w' : World} {Ib c : Nat} {ns : List Int} {gs : List (Nat × Nat)} {ls : List (List UInt8)} (h : OwIm base w (some ⟨Ib, 0, none⟩) c ns gs ls) {i g cg : Nat} (hg : gs[i]? = some (g, cg)) (k : Kpt (fun b => b = g) w w') {l : List UInt8} (ho : OwnB base w' (some ⟨g, 0, none⟩) cg l) (hl : l.length = 4096) (hI : ¬ Ib = g) :
    OwIm base w' (some ⟨Ib, 0, none⟩) c ns gs (ls.set i l) := by
  refine ⟨ownsRow_kpt h.row k (fun b hb e => ?_), ⟨?_, ?_, h.blk.dif⟩, h.len⟩
  · simp only [Value.ownBlock, Option.map_some, Option.some.injEq] at hb
    exact hI (hb.trans e)
  · rw [List.length_set]
    exact h.blk.len
  · intro j p x hp hx
    rw [List.getElem?_set] at hx
    by_cases e : i = j
    · subst e
      rw [if_pos rfl] at hx
      rw [hg] at hp
      cases hp
      split at hx
      · cases hx
        exact ⟨ho, hl⟩
      · cases hx
    · rw [if_neg e] at hx
      obtain ⟨h1, h2⟩ := h.blk.own j p x hp hx
      refine ⟨h1.kpt k (fun e2 => ?_), h2⟩
      have hd := h.blk.dif
      rw [List.nodup_iff_pairwise_ne, List.pairwise_iff_getElem] at hd
      obtain ⟨hi', hgi⟩ := List.getElem?_eq_some_iff.1 hg
      obtain ⟨hj', hpj⟩ := List.getElem?_eq_some_iff.1 hp
      rcases Nat.lt_or_gt_of_ne e with h3 | h3
      · exact hd i j (by simpa using hi') (by simpa using hj') h3 (by simp only [List.getElem_map, hgi, hpj]; exact e2.symm)
      · exact hd j i (by simpa using hj') (by simpa using hi') h3 (by simp only [List.getElem_map, hgi, hpj]; exact e2)
def GfInv (B Ib ic : Nat) (w2 : World) (inn : List UInt8) (t : List (List UInt8)) (n : Nat) (gs : List (Nat × Nat)) (k : Nat) (wr : World) : Prop :=
  OwIm B wr (some ⟨Ib, 0, none⟩) ic (nsOf inn n) gs (datF inn t n k) ∧ Kpt (fun b => ∃ q ∈ gs, q.1 = b) w2 wr ∧ ∀ j l, j < k → t[j]? = some l → l.length = 4096
theorem refGet_none (w : World) (a : Option Addr) (c : Nat) : Calls Try.prog 21 #[.slice a 0 c] w (GtPost w []) := by
  have hrow0 := heap_alloc_new w (.cells #[.int .i64 0, .int .i64 0, .slice none 0 0] 28)
  have hb0 : Below w.heap.size w (w.alloc (.cells #[.int .i64 0, .int .i64 0, .slice none 0 0] 28)) := (Below.refl _ _).alloc (Nat.le_refl _) _
  obtain ⟨x0, x1, x2⟩ := cells3 hrow0
  go_enter Try.func21, Try.ntmps21
  go_wp2
  refine bodyPost_ret (v := .tuple #[.agg #[.int .i64 0, .int .i64 0, .slice none 0 0], .int .i64 80]) ?_ rfl ⟨hb0, fun _ => rfl, fun h => by cases h⟩
  simp [results, Try.results21, go_sem, x0, x1, x2]
theorem refGet_yes (w : World) (b off N c : Nat) (h : List UInt8) (t : List (List UInt8)) (hN : N = t.length + 1) (hNc : N ≤ c ∧ c ≤ 9223372036854775807) (hNl : N ≤ 1000000) (hl : ∀ l ∈ h :: t, l.length ≤ 200000000000000) (hr : RdLs w (some ⟨b, off, none⟩) (h :: t)) (hb : b < w.heap.size)
    (hh : isHead h = true) : Calls Try.prog 21 #[.slice (some ⟨b, off, none⟩) N c] w (GtY w (epOf h) (seqOf h) (gathB h) (nOf (gathB h)) t) := by
  have hrow0 := heap_alloc_new w (.cells #[.int .i64 0, .int .i64 0, .slice none 0 0] 28)
  have hb0 : Below w.heap.size w (w.alloc (.cells #[.int .i64 0, .int .i64 0, .slice none 0 0] 28)) := (Below.refl _ _).alloc (Nat.le_refl _) _
  have hz0 : (w.alloc (.cells #[.int .i64 0, .int .i64 0, .slice none 0 0] 28)).heap.size = w.heap.size + 1 := by simp
  obtain ⟨b', off', A0, c0, e0, x0, y0, z0⟩ := hr 0 h rfl
  have e0' := Option.some.inj e0
  simp only [Addr.mk.injEq, and_true] at e0'
  obtain ⟨rfl, rfl⟩ := e0'
  clear e0
  rw [Nat.add_zero] at x0
  have xA := cell_below hb0 x0
  have HD := read_any (w.alloc (.cells #[.int .i64 0, .int .i64 0, .slice none 0 0] 28)) A0 h.length c0 h rfl z0 (y0.below hb0)
  unfold RfPost at HD
  have hne : ((N : Int) == 0) = false := by simpa using (show ¬ ((N : Int) = 0) by omega)
  have hN0 : (0 : Int) < (N : Int) := by omega
  have hp1 : 0 < N := by omega
  obtain ⟨hh1, hn1, hn2⟩ := isHead_n hh
  have HOK := hid (fun (a1 : t.length = nOf (gathB h)) (a2 : ∀ b ∈ t, b.length = 4096) => getOK_iff hh a1 a2)
  have HTL := hid (show getOK (h :: t) = (decide (t.length = nOf (gathB h)) && t.all (fun b => stmpD b (epOf h : Int) (seqOf h : Int))) by simp [getOK, hh])
  have hRR := hh
  rw [isHead_alt hh1 hn2, Bool.and_eq_true] at hRR
  have HRR := hid hRR.1
  clear hRR
  have hinn := gathB_length hh1
  rw [hh, hz0, hh1] at HD
  rw [hh1] at x0 xA
  have HR := hid hr
  clear x0 hr y0 z0 hh hh1 hz0
  generalize gathB h = inn at *
  generalize nOf inn = n at *
  generalize epOf h = E at *
  generalize seqOf h = Q at *
  have HNe := hid hN; have HL := hid hl
  clear hN hl
  go_enter Try.func21, Try.ntmps21
  go_wp2_with fail
  refine HD.mono ?_
  rintro e w1 ⟨b1, ep, seq, ia, im, ic, rfl, hyes⟩
  obtain ⟨he1, he2, he3, gs, q1⟩ := hyes trivial
  have he3 := he3.symm
  subst he1 he2 he3
  clear HD hyes
  have hbb := hb0.trans (b1.mono (by simp))
  have hz1 := b1.size
  have hR1 := (b1.block _ (by simp)).trans hrow0
  have b2 : Below w1.heap.size w1 (w1.alloc (.cells #[.int .i64 (E : Int), .int .i64 (Q : Int), .slice ia n ic] 28)) := (Below.refl _ _).alloc (Nat.le_refl _) _
  have hR2 := (b2.block _ (heap_in hR1)).trans hR1
  have hG2 := heap_alloc_new w1 (.cells #[.int .i64 (E : Int), .int .i64 (Q : Int), .slice ia n ic] 28)
  have hB2 := hbb.trans (b2.mono hbb.size)
  obtain ⟨g0, g1, g2⟩ := cells3 hG2
  by_cases hn : N = n + 1
  · subst hn
    have htl : Hid (t.length = n) := hid (by have := HNe.out; omega)
    obtain ⟨Ib, icc, eI, hIb1, hIb2⟩ := own_slice1 q1.row (by rw [nsOf_length]; omega)
    rw [nsOf_length] at eI
    simp only [Value.slice.injEq, true_and] at eI
    obtain ⟨rfl, rfl⟩ := eI
    obtain ⟨w2, hw2⟩ : ∃ w2, w2 = w1.alloc (.cells #[.int .i64 (E : Int), .int .i64 (Q : Int), .slice (some ⟨Ib, 0, none⟩) n ic] 28) := ⟨_, rfl⟩
    rw [← hw2] at b2 hR2 hG2 hB2 g0 g1 g2
    have hz2 : w2.heap.size = w1.heap.size + 1 := by rw [hw2]; simp
    have q12 := q1.below b2
    have Q12 := hid q12; have RR2 := hid hR2; have GG2 := hid hG2; have BB2 := hid hB2; have HW2 := hid hw2
    have hgl : gs.length = n := by have := q1.len; rw [nsOf_length] at this; exact this.symm
    have hgb : Hid (∀ q ∈ gs, w.heap.size + 1 ≤ q.1 ∧ q.1 < w1.heap.size) := hid (fun q hq => q1.blk.lt hq)
    have hgI : Hid (∀ q ∈ gs, q.1 ≠ Ib) := hid (fun q hq e => by
      obtain ⟨cs, hc⟩ := q1.blk.u8 hq
      exact absurd (row_no q1.row (by rw [e]; rfl) hc) (by decide))
    obtain ⟨Gb, hGb⟩ : ∃ Gb, Gb = w1.heap.size := ⟨_, rfl⟩
    clear q1 q12 hR2 hG2 hB2 b2 hR1 hbb b1 hb0 hrow0
    rw [hw2] at g0 g1 g2
    clear hw2
    go_wp2_with fail
    rw [← HW2.out]
    clear g0 g1 g2 xA hz1 he3 hne hN0 hp1
    rw [← hGb] at GG2 hz2
    rw [← hGb]
    have HWZ := hid hGb
    clear hGb HW2
    go_loopw [6] (fun i wr => ∃ k : Nat, k ≤ n ∧ i = .int .i64 k ∧ GfInv (w.heap.size + 1) Ib ic w2 inn t n gs k wr) (fun i _ => n - (intOf i).toNat)
    case atStart => exact ⟨0, Nat.zero_le _, rfl, by rw [datF_zero]; exact Q12.out, Kpt.refl _ _, fun j l hj => by omega⟩
    case round => as_aux_lemma =>
      obtain ⟨k, hk, rfl, p1, p2, p3⟩ := hrel

      have nS : ∀ b, b = w.heap.size ∨ b = Gb ∨ b = Ib → ¬ ∃ q ∈ gs, q.1 = b := fun b hb ⟨q, hq, e⟩ => by
        have hwz := HWZ.out
        have h1 := hgb.out q hq
        have h2 := hgI.out q hq
        omega
      have NS := hid nS
      have rR := p2.row RR2.out (nS _ (.inl rfl))
      have rG := p2.row GG2.out (nS _ (.inr (.inl rfl)))
      have rB := belowK BB2.out p2 (fun b ⟨q, hq, e⟩ => by have := hgb.out q hq; omega) BB2.out.size
      have rL := HR.out.below rB
      have hzr := p2.size
      obtain ⟨g0, g1, g2⟩ := cells3 rG
      have P1 := hid p1; have P2 := hid p2; have P3 := hid p3; have RR := hid rR; have RG := hid rG; have RL := hid rL; have RB := hid rB
      by_cases hlt : k < n
      · obtain ⟨l, hlk⟩ : ∃ l, t[k]? = some l := ⟨t[k]'(by rw [htl.out]; exact hlt), List.getElem?_eq_getElem _⟩
        obtain ⟨b', off', A, cl, e0, c0w, c1w, c2⟩ := HR.out (k + 1) l (by simpa using hlk)
        have c0' := cell_below rB c0w
        have c1 := c1w.below rB
        have C1W := hid c1w
        clear c0w c1w
        have e0' := Option.some.inj e0
        simp only [Addr.mk.injEq, and_true] at e0'
        obtain ⟨rfl, rfl⟩ := e0'
        have HLK := hid hlk; have C1 := hid c1
        have hki : (k : Int) + 1 < (n : Int) + 1 := by omega
        have hkt : ((k : Int) + 1).toNat = k + 1 := by omega
        by_cases hl4 : l.length = 4096
        · obtain ⟨bl, ol, eA, -⟩ := c1.at_ (by intro e; rw [e] at hl4; exact absurd hl4 (by decide))
          subst eA
          rw [hl4] at c0' c2
          have HL4 := hid hl4
          have hblw := hid (rd_block C1W.out (by omega))
          obtain ⟨⟨gk, ck⟩, hgk⟩ : ∃ q, gs[k]? = some q := ⟨gs[k]'(by omega), List.getElem?_eq_getElem _⟩
          obtain ⟨ok1, ok2⟩ := p1.blk.own k _ _ hgk (datF_at inn t n k hlt)
          have HOK1 := hid ok1; have HGK := hid hgk
          clear p1 p2 p3 rR rG rB rL c1 hlk hl4 ok1 ok2 hgk nS
          go_wp2_with fail
          obtain ⟨wo, rfl⟩ : ∃ wo : World, wo = wr := ⟨_, rfl⟩
          go_loopw [8] (fun i wr => ∃ q : Nat, q ≤ 4096 ∧ i = .int .i64 q ∧ OwnB (w.heap.size + 1) wr (some ⟨gk, 0, none⟩) ck (fillTo (hidI inn k) l q) ∧ Kpt (fun b => b = gk) wo wr) (fun i _ => 4096 - (intOf i).toNat)
          case atStart => exact ⟨0, Nat.zero_le _, rfl, by rw [fillTo_zero]; exact HOK1.out, Kpt.refl _ _⟩
          case round => as_aux_lemma =>
            obtain ⟨q, hq, rfl, ho, hkp⟩ := hrel
            have hmg := List.mem_of_getElem? HGK.out
            have hg1 := hgb.out _ hmg
            have hg2 := hgI.out _ hmg
            simp only at hg1 hg2
            have hGg : ¬ Gb = gk := by have := HWZ.out; omega
            have hIg : ¬ Ib = gk := fun e => hg2 e.symm
            have hfl : (fillTo (hidI inn k) l q).length = 4096 := fillTo_length _ _ _
            have HO := hid ho; have HKP := hid hkp
            by_cases hlq : q < 4096
            · have ht : (q : Int).tmod 512 = (q : Int) % 512 := Int.tmod_eq_emod_of_nonneg (by omega)
              by_cases hm : q % 512 < 8
              · have hm2 : ((q : Int) % 512 < 8) := by omega
                have HS := hid (fillTo_skip (hidI inn k) l q hm)
                clear hkp ho hm hg1 hg2 hmg
                go_wp2_with fail
                go_roundw
                case rel => exact ⟨q + 1, by omega, by go_num, by rw [HS.out]; exact HO.out, HKP.out⟩
                case measure => simp [intOf]; omega
              · have hm2 : ¬ ((q : Int) % 512 < 8) := by omega
                have HS := hid (fillTo_set (hidI inn k) l q hlq hm)
                have hvm : (vals gs)[k]? = some (.slice (some ⟨gk, 0, none⟩) 4096 ck) := by simp [vals, HGK.out]
                have i2 := (imC_at (nsOf inn n) (vals gs) k _ _ (nsOf_at inn n k hlt) hvm).2
                have i4 := World.ownsRow.cellAt P1.out.row (k * 2 + 1) (by rw [nsOf_length]; omega)
                rw [i2] at i4
                have i5 := hkp.cell i4 hIg
                have gG := (cells3 (hkp.row RG.out hGg)).2.2
                obtain ⟨_, _, e, y0⟩ := (C1.out.kpt hkp (by have := hblw.out; have := HL4.out; omega)).at_ (by intro e; have := HL4.out; rw [e] at this; exact absurd this (by decide))
                have e := Option.some.inj e
                simp only [Addr.mk.injEq, and_true] at e
                obtain ⟨rfl, rfl⟩ := e
                have y1 := y0 q (by rw [HL4.out]; exact hlq)
                obtain ⟨_, e, _, x0, xf⟩ := ho.at_ (by intro e; rw [e] at hfl; exact absurd hfl (by decide))
                have e := Option.some.inj e
                simp only [Addr.mk.injEq, and_true] at e
                subst e
                have x1 := x0 q (by omega)
                have xf1 := xf q
                have hbg : ¬ bl = gk := by have := hblw.out; omega
                have HFIN : Hid (OwnB (w.heap.size + 1) (wr.drew.setCell ⟨gk, q, none⟩ (.int .u8 ((bat l q).toNat : Int))) (some ⟨gk, 0, none⟩) ck (fillTo (hidI inn k) l (q + 1))) := hid (by
                  have h1 := (ho.below (below_drw (Below.refl _ _))).store q (bat l q)
                  rw [HS.out] at h1
                  exact h1)
                have K9 : Kpt (fun b => b = gk) wr.drew (wr.drew.setCell ⟨gk, q, none⟩ (.int .u8 ((bat l q).toNat : Int))) := (Kpt.refl (fun b => b = gk) wr.drew).stc rfl _
                have HK5 : Hid (Kpt (fun b => b = gk) wo (wr.drew.setCell ⟨gk, q, none⟩ (.int .u8 ((bat l q).toNat : Int)))) := hid ((hkp.trans (Kpt.of_below (below_drw (Below.refl _ _)))).trans K9)
                generalize bat l q = y at *
                have sX : wr.drew.cell? ⟨Gb, 2, none⟩ = some (.slice (some ⟨Ib, 0, none⟩) n ic) ∧ wr.drew.cell? ⟨Ib, k * 2 + 1, none⟩ = some (.slice (some ⟨gk, 0, none⟩) 4096 ck) ∧ wr.drew.cell? ⟨bl, ol + q, none⟩ = some (.int .u8 (y.toNat : Int)) := ⟨gG, i5, y1⟩
                have sY := And.intro (K9.cell sX.1 hGg) (And.intro (K9.cell sX.2.1 hIg) (K9.cell sX.2.2 hbg))
                have x2 : wr.drew.cell? ⟨gk, q, none⟩ = _ := x1
                have xf2 : wr.drew.frozen? ⟨gk, q, none⟩ = false := xf1
                clear y0 x0 xf ho hkp hfl K9 hvm i2 i4 i5 gG y1 x1 xf1 hg1 hg2 hmg
                go_wp2_with fail
                have hm5 : ((q : Int) % 512 < 8) = False := by simpa using hm2
                refine wp_region_held_drew (S := fun W1 => W1.cell? ⟨Gb, 2, none⟩ = some (.slice (some ⟨Ib, 0, none⟩) n ic) ∧ W1.cell? ⟨Ib, k * 2 + 1, none⟩ = some (.slice (some ⟨gk, 0, none⟩) 4096 ck) ∧ W1.cell? ⟨bl, ol + q, none⟩ = some (.int .u8 (y.toNat : Int))) (by kernel_rfl) (by exact sX) (fun hHeld => ?_)
                refine wpAnyH_take (i := 0) (oi := ?o0z1) (v := ?v0z1) ?hi0z1 (by kernel_rfl) (by kernel_rfl) ?hr0z1 ?hQ0z1 ?hy0z1 hHeld ?r0z1
                case hi0z1 => (simp only [List.getElem?_toArray, List.getElem?_cons_zero, List.getElem?_cons_succ]; rfl)
                case hr0z1 => kernel_rfl
                case hQ0z1 => exact fun _ _ _ h => h
                case hy0z1 => (refine Or.inl ⟨by rfl, ?_⟩; intro w hSw; (try dsimp only at hSw); go_simp; try with_reducible rfl)
                try simp only [Act.put, List.setIfInBounds_toArray, List.set_cons_zero, List.set_cons_succ]
                refine wpAnyH_take (i := 1) (oi := ?o1z1) (v := ?v1z1) ?hi1z1 (by kernel_rfl) (by kernel_rfl) ?hr1z1 ?hQ1z1 ?hy1z1 hHeld ?r1z1
                case hi1z1 => (simp only [List.getElem?_toArray, List.getElem?_cons_zero, List.getElem?_cons_succ]; rfl)
                case hr1z1 => kernel_rfl
                case hQ1z1 => exact fun _ _ _ h => h
                case hy1z1 => (refine Or.inl ⟨by rfl, ?_⟩; intro w hSw; (try dsimp only at hSw); go_simp; try with_reducible rfl)
                try simp only [Act.put, List.setIfInBounds_toArray, List.set_cons_zero, List.set_cons_succ]
                refine wpAnyH_take (i := 2) (oi := ?o2z1) (v := ?v2z1) ?hi2z1 (by kernel_rfl) (by kernel_rfl) ?hr2z1 ?hQ2z1 ?hy2z1 hHeld ?r2z1
                case hi2z1 => (simp only [List.getElem?_toArray, List.getElem?_cons_zero, List.getElem?_cons_succ]; rfl)
                case hr2z1 => kernel_rfl
                case hQ2z1 => exact fun _ _ _ h => h
                case hy2z1 => (refine Or.inl ⟨by rfl, ?_⟩; intro w hSw; (try dsimp only at hSw); go_simp; try with_reducible rfl)
                try simp only [Act.put, List.setIfInBounds_toArray, List.set_cons_zero, List.set_cons_succ]
                refine wpAnyH_take (i := 3) (oi := ?o3z1) (v := ?v3z1) ?hi3z1 (by kernel_rfl) (by kernel_rfl) ?hr3z1 ?hQ3z1 ?hy3z1 hHeld ?r3z1
                case hi3z1 => (simp only [List.getElem?_toArray, List.getElem?_cons_zero, List.getElem?_cons_succ]; rfl)
                case hr3z1 => kernel_rfl
                case hQ3z1 => exact fun _ _ _ h => h
                case hy3z1 => (refine Or.inl ⟨by rfl, ?_⟩; intro w hSw; (try dsimp only at hSw); go_simp; try with_reducible rfl)
                try simp only [Act.put, List.setIfInBounds_toArray, List.set_cons_zero, List.set_cons_succ]
                refine wpAnyH_take (i := 4) (oi := ?o4z1) (v := ?v4z1) ?hi4z1 (by kernel_rfl) (by kernel_rfl) ?hr4z1 ?hQ4z1 ?hy4z1 hHeld ?r4z1
                case hi4z1 => (simp only [List.getElem?_toArray, List.getElem?_cons_zero, List.getElem?_cons_succ]; rfl)
                case hr4z1 => kernel_rfl
                case hQ4z1 => exact fun _ _ _ h => h
                case hy4z1 => (refine Or.inl ⟨by rfl, ?_⟩; intro w hSw; (try dsimp only at hSw); go_simp; try with_reducible rfl)
                try simp only [Act.put, List.setIfInBounds_toArray, List.set_cons_zero, List.set_cons_succ]
                refine wpAnyH_take (i := 5) (oi := ?o5z1) (v := ?v5z1) ?hi5z1 (by kernel_rfl) (by kernel_rfl) ?hr5z1 ?hQ5z1 ?hy5z1 hHeld ?r5z1
                case hi5z1 => (simp only [List.getElem?_toArray, List.getElem?_cons_zero, List.getElem?_cons_succ]; rfl)
                case hr5z1 => kernel_rfl
                case hQ5z1 => exact fun _ _ _ h => h
                case hy5z1 => (refine Or.inl ⟨by rfl, ?_⟩; intro w hSw; (try dsimp only at hSw); go_simp; try with_reducible rfl)
                try simp only [Act.put, List.setIfInBounds_toArray, List.set_cons_zero, List.set_cons_succ]
                refine wpAnyH_take (i := 6) (oi := ?o6z1) (v := ?v6z1) ?hi6z1 (by kernel_rfl) (by kernel_rfl) ?hr6z1 ?hQ6z1 ?hy6z1 hHeld ?r6z1
                case hi6z1 => (simp only [List.getElem?_toArray, List.getElem?_cons_zero, List.getElem?_cons_succ]; rfl)
                case hr6z1 => kernel_rfl
                case hQ6z1 => exact fun _ _ _ h => h
                case hy6z1 => (refine Or.inl ⟨by rfl, ?_⟩; intro w hSw; (try dsimp only at hSw); go_simp; try with_reducible rfl)
                try simp only [Act.put, List.setIfInBounds_toArray, List.set_cons_zero, List.set_cons_succ]
                refine wpAnyH_take (i := 7) (oi := ?o7z1) (v := ?v7z1) ?hi7z1 (by kernel_rfl) (by kernel_rfl) ?hr7z1 ?hQ7z1 ?hy7z1 hHeld ?r7z1
                case hi7z1 => (simp only [List.getElem?_toArray, List.getElem?_cons_zero, List.getElem?_cons_succ]; rfl)
                case hr7z1 => kernel_rfl
                case hQ7z1 => exact fun _ _ _ h => h
                case hy7z1 => (refine Or.inl ⟨by rfl, ?_⟩; intro w hSw; (try dsimp only at hSw); go_simp; try with_reducible rfl)
                try simp only [Act.put, List.setIfInBounds_toArray, List.set_cons_zero, List.set_cons_succ]
                refine wpAnyH_take (i := 8) (oi := ?o8z1) (v := ?v8z1) ?hi8z1 (by kernel_rfl) (by kernel_rfl) ?hr8z1 ?hQ8z1 ?hy8z1 hHeld ?r8z1
                case hi8z1 => (simp only [List.getElem?_toArray, List.getElem?_cons_zero, List.getElem?_cons_succ]; rfl)
                case hr8z1 => kernel_rfl
                case hQ8z1 => exact fun _ _ _ h => h
                case hy8z1 => (refine Or.inl ⟨by rfl, ?_⟩; intro w hSw; (try dsimp only at hSw); go_simp; try with_reducible rfl)
                try simp only [Act.put, List.setIfInBounds_toArray, List.set_cons_zero, List.set_cons_succ]
                refine wpAnyH_take (i := 9) (oi := ?o9z1) (v := ?v9z1) ?hi9z1 (by kernel_rfl) (by kernel_rfl) ?hr9z1 ?hQ9z1 ?hy9z1 hHeld ?r9z1
                case hi9z1 => (simp only [List.getElem?_toArray, List.getElem?_cons_zero, List.getElem?_cons_succ]; rfl)
                case hr9z1 => kernel_rfl
                case hQ9z1 => exact fun _ _ _ h => h
                case hy9z1 => (refine Or.inl ⟨by rfl, ?_⟩; intro w hSw; (try dsimp only at hSw); go_simp; try with_reducible rfl)
                try simp only [Act.put, List.setIfInBounds_toArray, List.set_cons_zero, List.set_cons_succ]
                refine wpAnyH_take (i := 10) (oi := ?o10z1) (v := ?v10z1) ?hi10z1 (by kernel_rfl) (by kernel_rfl) ?hr10z1 ?hQ10z1 ?hy10z1 hHeld ?r10z1
                case hi10z1 => (simp only [List.getElem?_toArray, List.getElem?_cons_zero, List.getElem?_cons_succ]; rfl)
                case hr10z1 => kernel_rfl
                case hQ10z1 => exact fun _ _ _ h => h
                case hy10z1 => (refine Or.inl ⟨by rfl, ?_⟩; intro w hSw; (try dsimp only at hSw); go_simp; try with_reducible rfl)
                try simp only [Act.put, List.setIfInBounds_toArray, List.set_cons_zero, List.set_cons_succ]
                refine wpAnyH_take (i := 11) (oi := ?o11z1) (v := ?v11z1) ?hi11z1 (by kernel_rfl) (by kernel_rfl) ?hr11z1 ?hQ11z1 ?hy11z1 hHeld ?r11z1
                case hi11z1 => (simp only [List.getElem?_toArray, List.getElem?_cons_zero, List.getElem?_cons_succ]; rfl)
                case hr11z1 => kernel_rfl
                case hQ11z1 => exact fun _ _ _ h => h
                case hy11z1 => (refine Or.inl ⟨by rfl, ?_⟩; intro w hSw; (try dsimp only at hSw); go_simp; try with_reducible rfl)
                try simp only [Act.put, List.setIfInBounds_toArray, List.set_cons_zero, List.set_cons_succ]
                refine wpAnyH_ready (rs := [12]) (by kernel_rfl) (by simp) (AllReadyH.cons (o := ?o12z1) ?hi12z1 (fun K hK => ?r12z1) AllReadyH.nil)
                case hi12z1 => (simp only [List.getElem?_toArray, List.getElem?_cons_zero, List.getElem?_cons_succ]; rfl)
                go_simp
                refine hK.out _ _ (by exact sY) (fun hHeld => ?_)
                clear hK K
                try simp only [Act.put, List.setIfInBounds_toArray, List.set_cons_zero, List.set_cons_succ]
                refine wpAnyH_done (by kernel_rfl) ?_ _
                go_wp2_with fail
                go_roundw
                case rel => exact ⟨q + 1, by omega, by go_num, HFIN.out, HK5.out⟩
                case measure => simp [intOf]; omega
            · obtain rfl : q = 4096 := by omega
              rw [fillTo_all _ _ HL4.out] at ho
              have HO2 := hid ho
              clear ho hkp hfl hg1 hg2
              go_wp2_with fail
              go_roundw
              case rel =>
                refine ⟨k + 1, by omega, by go_num, ?_, P2.out.up HKP.out (fun b hb => .inl ⟨_, hmg, hb.symm⟩), ?_⟩
                · rw [← datF_set inn t n k l HLK.out]
                  exact OwIm.upd P1.out HGK.out HKP.out HO2.out (by rw [shownB_length, HL4.out]) hIg
                · intro j x hj hx
                  by_cases e : j = k
                  · subst e
                    rw [HLK.out] at hx
                    cases hx
                    exact HL4.out
                  · exact P3.out j x (by omega) hx
              case measure => simp [intOf]; omega
        · have HF : Hid ((decide (t.length = n) && t.all (fun b => stmpD b (E : Int) (Q : Int))) = false) := hid (by
            have : t.all (fun b => stmpD b (E : Int) (Q : Int)) = false := List.all_eq_false.2 ⟨l, List.mem_of_getElem? hlk, fun h => hl4 (of_decide_eq_true h).2.2.2.2.1⟩
            rw [this, Bool.and_false])
          have hl5 : ((l.length : Int) == 4096) = false := by simpa using (show ¬ (l.length : Int) = 4096 by omega)
          have hs := set3 rR (.int .i64 0) (.int .i64 0) (.slice none 0 0)
          obtain ⟨v0, v1, v2⟩ := cells3 hs.1
          obtain ⟨r0, r1, r2⟩ := cells3 rR
          have f0 := frozen_of_row _ w.heap.size 0 _ _ rR
          have f1 := frozen_of_row _ w.heap.size 1 _ _ rR
          have f2 := frozen_of_row _ w.heap.size 2 _ _ rR
          have HB := hid (belowK rB hs.2 (fun b hb => by omega) rB.size)
          clear p1 p2 p3 rR rG rB rL c1 hlk hs nS
          go_wp2
          (try simp only [Exit.inBlock, Exit.then])
          refine bodyPost_ret (v := .tuple #[.agg #[.int .i64 0, .int .i64 0, .slice none 0 0], .int .i64 80]) ?_ rfl ⟨HB.out, fun _ => rfl, fun h => by rw [HF.out] at h; cases h⟩
          simp [results, Try.results21, go_sem, v0, v1, v2]
      · obtain rfl : k = n := by omega
        have h4 : ∀ b ∈ t, b.length = 4096 := fun b hb => by
          obtain ⟨j, hj, rfl⟩ := List.getElem_of_mem hb
          exact p3 j _ (by rw [← htl.out]; exact hj) (List.getElem?_eq_getElem hj)
        rw [datF_all] at p1
        have hgr := got_right htl.out h4 (E : Int) (Q : Int) HRR.out
        have hgk2 : (decide (t.length = k) && t.all (fun b => stmpD b (E : Int) (Q : Int))) = decide (putB E Q (gotIms inn t k) = h :: t) := by rw [← HTL.out]; exact HOK.out htl.out h4
        have PT := refPut_any wr (E : Int) (Q : Int) (some ⟨Ib, 0, none⟩) k ic (gotIms inn t k) (gotIms_length inn t k).symm p1.rd
        simp only [Int.toNat_natCast] at PT
        rw [hgr] at PT
        have P1' := hid p1; have HGK2 := hid hgk2
        clear p1 p2 p3 hgr hgk2 nS h4 rR rB rL rG
        go_wp2_with fail
        refine PT.mono ?_
        rintro e w3 ⟨b3, -, hyes⟩
        obtain ⟨L, cL, gs3, rfl, hols⟩ := hyes trivial
        clear PT hyes g0 g1 g2
        have hR3 := (b3.block _ (heap_in RR.out)).trans RR.out
        have hG3 := (b3.block _ (heap_in RG.out)).trans RG.out
        have hB3 := RB.out.trans (b3.mono RB.out.size)
        have SL := SameLists_any w3 (some ⟨L, 0, none⟩) (some ⟨b, off, none⟩) cL c (k + 1) (k + 1) (putB E Q (gotIms inn t k)) (h :: t) (by simp [putB, gotIms_length]) HNe.out (by simp [putB, gotIms_length]; omega) hols.rd (RL.out.below b3)
        have HR3 := hid hR3; have HG3 := hid hG3; have HB3 := hid hB3; have B3 := hid b3
        clear hR3 hG3 hB3 b3 hols
        go_wp2_with fail
        refine SL.mono ?_
        rintro e w4 ⟨rfl, b4⟩
        clear SL
        have hR4 := (b4.block _ (heap_in HR3.out)).trans HR3.out
        have hG4 := (b4.block _ (heap_in HG3.out)).trans HG3.out
        have hB4 := HB3.out.trans (b4.mono HB3.out.size)
        obtain ⟨r0, r1, r2⟩ := cells3 hR4
        have f0 := frozen_of_row _ w.heap.size 0 _ _ hR4
        have f1 := frozen_of_row _ w.heap.size 1 _ _ hR4
        have f2 := frozen_of_row _ w.heap.size 2 _ _ hR4
        by_cases heq : putB E Q (gotIms inn t k) = h :: t
        · have HF : Hid ((decide (t.length = k) && t.all (fun b => stmpD b (E : Int) (Q : Int))) = true) := hid (by rw [HGK2.out, decide_eq_true heq])
          rw [decide_eq_true heq]
          obtain ⟨g0, g1, g2⟩ := cells3 hG4
          have hs := set3 hR4 (.int .i64 (E : Int)) (.int .i64 (Q : Int)) (.slice (some ⟨Ib, 0, none⟩) k ic)
          obtain ⟨v0, v1, v2⟩ := cells3 hs.1
          have HB := hid (belowK hB4 hs.2 (fun b hb => by omega) hB4.size)
          have p14 := (P1'.out.below B3.out).below b4
          have HP := hid ((p14.kpt hs.2 (fun b hb e => by have := own_base p14.row b (own_img p14.row hb); omega) (fun q hq e => by have := (p14.blk.lt hq).1; omega)).mono (Nat.le_succ w.heap.size))
          clear hs hR4 hG4 hB4 b4 p14 heq
          go_wp2
          (try simp only [Exit.inBlock, Exit.then])
          refine bodyPost_ret (v := .tuple #[.agg #[.int .i64 (E : Int), .int .i64 (Q : Int), .slice (some ⟨Ib, 0, none⟩) k ic], .int .i64 0]) ?_ rfl ⟨HB.out, fun h => (by rw [HF.out] at h; cases h), fun _ => ⟨_, _, _, rfl, HP.out⟩⟩
          simp [results, Try.results21, go_sem, v0, v1, v2]
        · have HF : Hid ((decide (t.length = k) && t.all (fun b => stmpD b (E : Int) (Q : Int))) = false) := hid (by rw [HGK2.out, decide_eq_false heq])
          rw [decide_eq_false heq]
          have hs := set3 hR4 (.int .i64 0) (.int .i64 0) (.slice none 0 0)
          obtain ⟨v0, v1, v2⟩ := cells3 hs.1
          have HB := hid (belowK hB4 hs.2 (fun b hb => by omega) hB4.size)
          clear hs hR4 hG4 hB4 b4 heq
          go_wp2
          (try simp only [Exit.inBlock, Exit.then])
          refine bodyPost_ret (v := .tuple #[.agg #[.int .i64 0, .int .i64 0, .slice none 0 0], .int .i64 80]) ?_ rfl ⟨HB.out, fun _ => rfl, fun h => by rw [HF.out] at h; cases h⟩
          simp [results, Try.results21, go_sem, v0, v1, v2]
  · have hne2 : (((N : Nat) : Int) == (n : Int) + 1) = false := by simpa using (show ¬ ((N : Int) = (n : Int) + 1) by omega)
    have HF : Hid ((decide (t.length = n) && t.all (fun b => stmpD b (E : Int) (Q : Int))) = false) := hid (by rw [decide_eq_false (by have := HNe.out; omega)]; rfl)
    have hs := set3 hR2 (.int .i64 0) (.int .i64 0) (.slice none 0 0)
    obtain ⟨v0, v1, v2⟩ := cells3 hs.1
    obtain ⟨r0, r1, r2⟩ := cells3 hR2
    have f0 := frozen_of_row _ w.heap.size 0 _ _ hR2
    have f1 := frozen_of_row _ w.heap.size 1 _ _ hR2
    have f2 := frozen_of_row _ w.heap.size 2 _ _ hR2
    have HB := hid (belowK hB2 hs.2 (fun b hb => by omega) hB2.size)
    clear hn hs hB2 hR2 hG2 b2 hR1 hz1 hbb q1 b1 hb0 hrow0 xA
    go_wp2
    refine bodyPost_ret (v := .tuple #[.agg #[.int .i64 0, .int .i64 0, .slice none 0 0], .int .i64 80]) ?_ rfl ⟨HB.out, fun _ => rfl, fun h => by rw [HF.out] at h; cases h⟩
    simp [results, Try.results21, go_sem, v0, v1, v2]
theorem refGet_any (w : World) (a : Option Addr) (N c : Nat) (h : List UInt8) (t : List (List UInt8)) (hN : N = t.length + 1) (hNc : N ≤ c ∧ c ≤ 9223372036854775807) (hNl : N ≤ 1000000) (hl : ∀ l ∈ h :: t, l.length ≤ 200000000000000) (hr : RdLs w a (h :: t)) (hb : ∀ b, blkOf a b → b < w.heap.size) :
    Calls Try.prog 21 #[.slice a N c] w (GtPost w (h :: t)) := by
  obtain ⟨b, off, A0, c0, rfl, x0, y0, z0⟩ := hr 0 h rfl
  cases hh : isHead h with
  | true =>
    refine (refGet_yes w b off N c h t hN hNc hNl hl hr (hb b rfl) hh).mono ?_
    have hG : getOK (h :: t) = (decide (t.length = nOf (gathB h)) && t.all (fun b => stmpD b (epOf h : Int) (seqOf h : Int))) := by simp [getOK, hh]
    rintro e w' ⟨k1, k2, k3⟩
    refine ⟨k1, fun hf => k2 (by rw [← hG]; exact hf), fun hf => ?_⟩
    obtain ⟨A, c', gs, k4, k5⟩ := k3 (by rw [← hG]; exact hf)
    exact ⟨h, t, A, c', gs, rfl, k4, k5⟩
  | false =>
    have hrow0 := heap_alloc_new w (.cells #[.int .i64 0, .int .i64 0, .slice none 0 0] 28)
    have hb0 : Below w.heap.size w (w.alloc (.cells #[.int .i64 0, .int .i64 0, .slice none 0 0] 28)) := (Below.refl _ _).alloc (Nat.le_refl _) _
    rw [Nat.add_zero] at x0
    have xA := cell_below hb0 x0
    have HD := read_any (w.alloc (.cells #[.int .i64 0, .int .i64 0, .slice none 0 0] 28)) A0 h.length c0 h rfl z0 (y0.below hb0)
    unfold RfPost at HD
    have hne : ((N : Int) == 0) = false := by simpa using (show ¬ ((N : Int) = 0) by omega)
    have hN0 : (0 : Int) < (N : Int) := by omega
    have hp1 : 0 < N := by omega
    have HNe := hid hN
    have HF := hid (show getOK (h :: t) = false by simp [getOK, hh])
    clear hN x0
    rw [hh] at HD
    clear hh
    go_enter Try.func21, Try.ntmps21
    go_wp2_with fail
    refine HD.mono ?_
    rintro e w1 ⟨b1, ep, seq, ia, im, ic, rfl, -⟩
    clear HD
    have hbb := hb0.trans (b1.mono hb0.size)
    have hR1 := (b1.block _ (heap_in hrow0)).trans hrow0
    have b2 : Below w1.heap.size w1 (w1.alloc (.cells #[.int .i64 ep, .int .i64 seq, .slice ia im ic] 28)) := (Below.refl _ _).alloc (Nat.le_refl _) _
    have hR2 := (b2.block _ (heap_in hR1)).trans hR1
    have hB2 := hbb.trans (b2.mono hbb.size)
    have hs := set3 hR2 (.int .i64 0) (.int .i64 0) (.slice none 0 0)
    obtain ⟨v0, v1, v2⟩ := cells3 hs.1
    obtain ⟨r0, r1, r2⟩ := cells3 hR2
    have f0 := frozen_of_row _ w.heap.size 0 _ _ hR2
    have f1 := frozen_of_row _ w.heap.size 1 _ _ hR2
    have f2 := frozen_of_row _ w.heap.size 2 _ _ hR2
    have HB := hid (belowK hB2 hs.2 (fun b hb => by omega) hB2.size)
    clear hR1 hR2 hrow0 hb0 hbb b1 hr y0 xA hs hB2 b2
    go_wp2
    refine bodyPost_ret (v := .tuple #[.agg #[.int .i64 0, .int .i64 0, .slice none 0 0], .int .i64 80]) ?_ rfl ⟨HB.out, fun _ => rfl, fun h => by rw [HF.out] at h; cases h⟩
    simp [results, Try.results21, go_sem, v0, v1, v2]
end Go.Proofs.Ytknhfaplddgnlaa
