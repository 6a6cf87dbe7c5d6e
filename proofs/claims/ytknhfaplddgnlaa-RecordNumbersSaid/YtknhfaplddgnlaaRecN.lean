/- record.Get (printed by gen06f.py). -/
import Derived.Test.YtknhfaplddgnlaaRecK
namespace Go.Proofs.Ytknhfaplddgnlaa
open Go.RowKit
set_option maxHeartbeats 1000000
set_option maxRecDepth 100000
set_option linter.unusedVariables false
set_option linter.unusedSimpArgs false

/-- The images' data when so many have been looked at. -/
def datI (inn : List UInt8) (t : List (List UInt8)) (n i : Nat) : List (List UInt8) := (List.range n).map fun j => if j < i then shownB (hidI inn j) (t.getD j []) else zeros 4096
theorem datI_zero (inn : List UInt8) (t : List (List UInt8)) (n : Nat) : datI inn t n 0 = List.replicate n (zeros 4096) := by
  refine List.ext_getElem (by simp [datI]) fun j h1 h2 => ?_
  simp [datI]
theorem datI_length (inn : List UInt8) (t : List (List UInt8)) (n i : Nat) : (datI inn t n i).length = n := by simp [datI]
theorem datI_set (inn : List UInt8) (t : List (List UInt8)) (n i : Nat) (b : List UInt8) (hb : t[i]? = some b) : (datI inn t n i).set i (shownB (hidI inn i) b) = datI inn t n (i + 1) := by
  refine List.ext_getElem (by simp [datI]) fun j h1 h2 => ?_
  have hj : j < n := by simpa [datI] using h2
  rw [List.getElem_set]
  by_cases e : i = j
  · subst e
    simp [datI, hb]
  · rw [if_neg e]
    by_cases h : j < i
    · simp [datI, h, show j < i + 1 by omega]
    · simp [datI, h, show ¬ j < i + 1 by omega]
theorem vals_set (gs : List (Nat × Nat)) (i g c : Nat) : vals (gs.set i (g, c)) = (vals gs).set i (.slice (some ⟨g, 0, none⟩) 4096 c) := by simp [vals, List.map_set]
theorem Blk.set {base : Nat} {w : World} {gs : List (Nat × Nat)} {ls : List (List UInt8)} (h : Blk base w gs ls) (i : Nat) {g c : Nat} {l : List UInt8} (ho : OwnB base w (some ⟨g, 0, none⟩) c l) (hl : l.length = 4096) (hg : g ∉ gs.map (·.1)) : Blk base w (gs.set i (g, c)) (ls.set i l) := by
  refine ⟨by simp [h.len], fun j p x h1 h2 => ?_, ?_⟩
  · rw [List.getElem?_set] at h1 h2
    by_cases e : i = j
    · subst e
      rw [if_pos rfl] at h1 h2
      have hlen := h.len
      split at h1
      · split at h2
        · cases h1; cases h2; exact ⟨ho, hl⟩
        · cases h2
      · cases h1
    · rw [if_neg e] at h1 h2
      exact h.own j p x h1 h2
  · rw [List.map_set, List.nodup_iff_pairwise_ne, List.pairwise_iff_getElem]
    intro a b ha hb hab he
    have hd := h.dif
    rw [List.nodup_iff_pairwise_ne, List.pairwise_iff_getElem] at hd
    simp only [List.length_set] at ha hb
    rw [List.getElem_set, List.getElem_set] at he
    split at he
    · split at he
      · omega
      · exact hg ((show g = _ from he) ▸ List.getElem_mem _)
    · split at he
      · exact hg ((show _ = g from he) ▸ List.getElem_mem _)
      · exact hd a b ha hb hab he
/-- Are these the blocks of a right group? -/
def getOK : List (List UInt8) → Bool
  | [] => false
  | h :: t => isHead h && decide (t.length = nOf (gathB h)) && t.all (fun b => stmpD b (epOf h : Int) (seqOf h : Int))
def GtPost (w : World) (ls : List (List UInt8)) (e : Ending) (w' : World) : Prop :=
  Below w.heap.size w w' ∧ (getOK ls = false → e = .returned (.tuple #[.agg #[.int .i64 0, .int .i64 0, .slice none 0 0], .int .i64 80])) ∧
    (getOK ls = true → ∃ h t A c gs, ls = h :: t ∧ e = .returned (.tuple #[.agg #[.int .i64 (epOf h : Int), .int .i64 (seqOf h : Int), .slice A (nOf (gathB h)) c], .int .i64 0]) ∧
      OwIm w.heap.size w' A c (nsOf (gathB h) (nOf (gathB h))) gs (datI (gathB h) t (nOf (gathB h)) (nOf (gathB h))))
theorem isHead_n {l : List UInt8} (h : isHead l = true) : l.length = 4096 ∧ 1 ≤ nOf (gathB l) ∧ nOf (gathB l) ≤ 32 := by
  unfold isHead at h
  simp only [Bool.and_eq_true, decide_eq_true_eq] at h
  obtain ⟨⟨⟨h1, h2⟩, _⟩, _⟩ := h
  exact ⟨(of_decide_eq_true h1).2.2.2.2.1, h2⟩
theorem Get_none (w : World) (a : Option Addr) (c : Nat) : Calls Try.prog 11 #[.slice a 0 c] w (GtPost w []) := by
  have hrow0 := heap_alloc_new w (.cells #[.int .i64 0, .int .i64 0, .slice none 0 0] 28)
  have hb0 : Below w.heap.size w (w.alloc (.cells #[.int .i64 0, .int .i64 0, .slice none 0 0] 28)) := (Below.refl _ _).alloc (Nat.le_refl _) _
  obtain ⟨x0, x1, x2⟩ := cells3 hrow0
  go_enter Try.func11, Try.ntmps11
  go_wp2
  refine bodyPost_ret (v := .tuple #[.agg #[.int .i64 0, .int .i64 0, .slice none 0 0], .int .i64 80]) ?_ rfl ⟨hb0, fun _ => rfl, fun h => by cases h⟩
  simp [results, Try.results11, go_sem, x0, x1, x2]
/-- An image's data is put in its place. -/
theorem OwIm.put {base : Nat} {w : World} {Ib c : Nat} {ns : List Int} {gs : List (Nat × Nat)} {ls : List (List UInt8)} (h : OwIm base w (some ⟨Ib, 0, none⟩) c ns gs ls) (i : Nat) {g cg : Nat} {l : List UInt8} (ho : OwnB base w (some ⟨g, 0, none⟩) cg l) (hl : l.length = 4096) (hg : g ∉ gs.map (·.1)) :
    OwIm base (w.setCell ⟨Ib, i * 2 + 1, none⟩ (.slice (some ⟨g, 0, none⟩) 4096 cg)) (some ⟨Ib, 0, none⟩) c ns (gs.set i (g, cg)) (ls.set i l) := by
  have K : Kpt (fun b => b = Ib) w (w.setCell ⟨Ib, i * 2 + 1, none⟩ (.slice (some ⟨g, 0, none⟩) 4096 cg)) := (Kpt.refl (fun b => b = Ib) w).stc rfl _
  have hT : ∀ {cs : Array Value} {t : TypeId} {b : Nat}, w.heap[b]? = some (.cells cs t (0, 0)) → t ≠ 38 → ¬ b = Ib := fun hc ht e => ht (row_no h.row (by rw [e]; rfl) hc)
  refine ⟨?_, (h.blk.kpt K (fun q hq => ?_)).set i (ho.kpt K ?_) hl hg, ?_⟩
  · have h1 := (World.ownsRow.stored h.row (i * 2 + 1) (.slice (some ⟨g, 0, none⟩) 4096 cg)).1
    rw [vals_set]
    rcases imC_set ns (vals gs) i (.slice (some ⟨g, 0, none⟩) 4096 cg) with e | e
    · rw [← e]
      exact h1
    · exact absurd (by rw [vals_length]; exact h.len) e
  · obtain ⟨cs, hc⟩ := h.blk.u8 hq
    exact hT hc (by decide)
  · obtain ⟨cur, hc, _⟩ := ho.row
    exact hT hc (by decide)
  · rw [List.length_set]
    exact h.len
def GtInv (B Ib ic : Nat) (E Q : Int) (w2 : World) (inn : List UInt8) (t : List (List UInt8)) (n k : Nat) (wr : World) : Prop :=
  ∃ gs, OwIm B wr (some ⟨Ib, 0, none⟩) ic (nsOf inn n) gs (datI inn t n k) ∧ Kpt (fun b => b = Ib) w2 wr ∧ ∀ j l, j < k → t[j]? = some l → stmpD l E Q = true
def GtY (w : World) (E Q : Nat) (inn : List UInt8) (n : Nat) (t : List (List UInt8)) (e : Ending) (w' : World) : Prop :=
  Below w.heap.size w w' ∧ ((decide (t.length = n) && t.all (fun b => stmpD b (E : Int) (Q : Int))) = false → e = .returned (.tuple #[.agg #[.int .i64 0, .int .i64 0, .slice none 0 0], .int .i64 80])) ∧
    ((decide (t.length = n) && t.all (fun b => stmpD b (E : Int) (Q : Int))) = true → ∃ A c gs, e = .returned (.tuple #[.agg #[.int .i64 (E : Int), .int .i64 (Q : Int), .slice A n c], .int .i64 0]) ∧
      OwIm w.heap.size w' A c (nsOf inn n) gs (datI inn t n n))
theorem Get_yes (w : World) (b off N c : Nat) (h : List UInt8) (t : List (List UInt8)) (hN : N = t.length + 1) (hNc : N ≤ c ∧ c ≤ 9223372036854775807) (hNl : N ≤ 1000000) (hl : ∀ l ∈ h :: t, l.length ≤ 200000000000000) (hr : RdLs w (some ⟨b, off, none⟩) (h :: t)) (hb : b < w.heap.size)
    (hh : isHead h = true) : Calls Try.prog 11 #[.slice (some ⟨b, off, none⟩) N c] w (GtY w (epOf h) (seqOf h) (gathB h) (nOf (gathB h)) t) := by
  have hrow0 := heap_alloc_new w (.cells #[.int .i64 0, .int .i64 0, .slice none 0 0] 28)
  have hb0 : Below w.heap.size w (w.alloc (.cells #[.int .i64 0, .int .i64 0, .slice none 0 0] 28)) := (Below.refl _ _).alloc (Nat.le_refl _) _
  have hz0 : (w.alloc (.cells #[.int .i64 0, .int .i64 0, .slice none 0 0] 28)).heap.size = w.heap.size + 1 := by simp
  obtain ⟨b', off', A0, c0, e0, x0, y0, z0⟩ := hr 0 h rfl
  have e0' := Option.some.inj e0
  simp only [Addr.mk.injEq, and_true] at e0'
  obtain ⟨rfl, rfl⟩ := e0'
  clear e0
  rw [Nat.add_zero] at x0
  have xA := cell_below hb0 x0
  have HD := head_any (w.alloc (.cells #[.int .i64 0, .int .i64 0, .slice none 0 0] 28)) A0 h.length c0 h rfl (hl h (by simp)) z0 (y0.below hb0)
  unfold HdPost at HD
  have hne : ((N : Int) == 0) = false := by simpa using (show ¬ ((N : Int) = 0) by omega)
  have hN0 : (0 : Int) < (N : Int) := by omega
  have hp1 : 0 < N := by omega
  obtain ⟨hh1, hn1, hn2⟩ := isHead_n hh
  have hinn := gathB_length hh1
  rw [hh, hz0, hh1] at HD
  rw [hh1] at x0 xA
  have HR := hid hr
  clear x0 hr y0 z0 hh hh1 hz0
  generalize gathB h = inn at *
  generalize nOf inn = n at *
  generalize epOf h = E at *
  generalize seqOf h = Q at *
  have BL := fun W => Blocks_any W ((n : Nat) : Int)
  have hif : (if 1 ≤ ((n : Nat) : Int) ∧ ((n : Nat) : Int) ≤ 32 then ((n : Nat) : Int) + 1 else 0) = ((n : Nat) : Int) + 1 := if_pos (by omega)
  simp only [hif] at BL
  have HNe := hid hN; have HL := hid hl
  clear hN hl hif
  go_enter Try.func11, Try.ntmps11
  go_wp2_with fail
  refine HD.mono ?_
  rintro e w1 ⟨b1, ep, seq, ia, im, ic, ha, hm, hc, rfl, hyes⟩
  obtain ⟨he1, he2, he3, he4, gs, gi, ci, q1, q2, q3⟩ := hyes trivial
  have he3 := he3.symm
  have he4 := he4.symm
  subst he1 he2 he3 he4
  clear HD hyes
  have hbb := hb0.trans (b1.mono (by simp))
  have hz1 := b1.size
  have hR1 := (b1.block _ (by simp)).trans hrow0
  have b2 : Below w1.heap.size w1 (w1.alloc (.cells #[.int .i64 (E : Int), .int .i64 (Q : Int), .slice ia n ic] 28)) := (Below.refl _ _).alloc (Nat.le_refl _) _
  have hR2 := (b2.block _ (heap_in hR1)).trans hR1
  have hG2 := heap_alloc_new w1 (.cells #[.int .i64 (E : Int), .int .i64 (Q : Int), .slice ia n ic] 28)
  have hB2 := hbb.trans (b2.mono hbb.size)
  obtain ⟨g0, g1, g2⟩ := cells3 hG2
  by_cases hn : N = n + 1
  · subst hn
    have hc2 : ¬ c = 1 := by omega
    have hc1 : ¬ c = 0 := by omega
    have hif2 : ((n : Int) + 1 == (n : Int) + 1) = true := by simp
    have htl : Hid (t.length = n) := hid (by have := HNe.out; omega)
    obtain ⟨Ib, icc, eI, hIb1, hIb2⟩ := own_slice1 q1.row (by rw [nsOf_length]; omega)
    rw [nsOf_length] at eI
    simp only [Value.slice.injEq, true_and] at eI
    obtain ⟨rfl, rfl⟩ := eI
    obtain ⟨Hb, hcc, eH, hHb1, hHb2⟩ := own_slice1 q2 (by omega)
    simp only [Value.slice.injEq, true_and] at eH
    obtain ⟨rfl, rfl⟩ := eH
    have hIrow : ∃ cs : Array Value, w1.heap[Ib]? = some (.cells cs 38 (0, 0)) := own_rowc q1.row rfl
    have hIc := hid (own_cap q1.row)
    have hcap := q3.cap
    rw [hinn] at hcap
    obtain ⟨hcap1, hcap2⟩ := hcap
    -- the world behind the group's box
    obtain ⟨w2, hw2⟩ : ∃ w2, w2 = w1.alloc (.cells #[.int .i64 (E : Int), .int .i64 (Q : Int), .slice (some ⟨Ib, 0, none⟩) n ic] 28) := ⟨_, rfl⟩
    rw [← hw2] at b2 hR2 hG2 hB2 g0 g1 g2
    have hz2 : w2.heap.size = w1.heap.size + 1 := by rw [hw2]; simp
    have q12 := q1.below b2
    have q22 := own_below q2 b2
    have q32 := q3.below b2
    have hr2 := HR.out.below hB2
    obtain ⟨cs, hIrow⟩ := hIrow
    have hIrow2 := (b2.block _ hIb2).trans hIrow
    have Q12 := hid q12; have Q22 := hid q22; have Q32 := hid q32; have HR2 := hid hr2; have RR2 := hid hR2; have GG2 := hid hG2; have BB2 := hid hB2; have HW2 := hid hw2; have II2 := hid hIrow2
    obtain ⟨Gb, hGb⟩ : ∃ Gb, Gb = w1.heap.size := ⟨_, rfl⟩
    clear q1 q2 q3 q12 q22 q32 hr2 hR2 hG2 hB2 hIrow hIrow2 b2 hR1 hbb b1 hb0 hrow0
    rw [hw2] at g0 g1 g2
    clear hw2
    go_wp2_with fail
    refine (BL _).mono ?_
    rintro e w' ⟨rfl, rfl⟩
    clear BL
    go_wp2_with fail
    rw [← HW2.out]
    clear g0 g1 g2 xA hz1 he3 he4 hne hN0 hp1
    rw [← hGb] at GG2 hz2
    rw [← hGb]
    have HWZ := hid hGb
    clear hGb HW2
    go_loopw [36] (fun i wr => ∃ k : Nat, k ≤ n ∧ i = .int .i64 k ∧ GtInv (w.heap.size + 1) Ib ic E Q w2 inn t n k wr) (fun i _ => n - (intOf i).toNat)
    case atStart => exact ⟨0, Nat.zero_le _, rfl, gs, by rw [datI_zero]; exact Q12.out, Kpt.refl _ _, fun j l hj => by omega⟩
    case round => as_aux_lemma =>
      obtain ⟨k, hk, rfl, gs', p1, p2, p3⟩ := hrel
      have hwI : ∀ {cs : Array Value} {t : TypeId} {b : Nat}, w2.heap[b]? = some (.cells cs t (0, 0)) → t ≠ 38 → ¬ b = Ib := fun hc ht e => by
        subst e
        have := II2.out
        rw [hc] at this
        simp only [Option.some.injEq, Obj.cells.injEq] at this
        exact ht this.2.1
      have hRG : w.heap.size ≠ Ib := by omega
      have hGI : Gb ≠ Ib := hwI GG2.out (by decide)
      have hHI : Hb ≠ Ib := by
        obtain ⟨cs', hc'⟩ := own_rowc Q22.out (b := Hb) rfl
        exact hwI hc' (by decide)
      have hgI : gi ≠ Ib := by
        obtain ⟨cur, hc', _⟩ := Q32.out.row
        exact hwI hc' (by decide)
      have rR := p2.row RR2.out hRG
      have rG := p2.row GG2.out hGI
      have rH := ownsRow_kpt Q22.out p2 (fun b hb e => hHI (by
        simp only [Value.ownBlock, Option.map_some, Option.some.injEq] at hb
        exact hb.trans e))
      have rg := Q32.out.kpt p2 hgI
      have rB := belowK BB2.out p2 (fun b hb => by omega) BB2.out.size
      have rL := HR.out.below rB
      have hzr := p2.size
      by_cases hlt : k < n
      · obtain ⟨l, hlk⟩ : ∃ l, t[k]? = some l := ⟨t[k]'(by rw [htl.out]; exact hlt), List.getElem?_eq_getElem _⟩
        obtain ⟨b', off', A, cl, e0, c0', c1, c2⟩ := rL (k + 1) l (by simpa using hlk)
        have e0' := Option.some.inj e0
        simp only [Addr.mk.injEq, and_true] at e0'
        obtain ⟨rfl, rfl⟩ := e0'
        have x0 : wr.cell? ⟨b, off + 1 + k, none⟩ = some (.slice A l.length cl) := by rw [Nat.add_assoc, Nat.add_comm 1 k]; exact c0'
        have ST := Stamped_any wr A cl l.length l rfl c2 c1 (E : Int) (Q : Int)
        obtain ⟨g0, g1, g2⟩ := cells3 rG
        have P1 := hid p1; have P2 := hid p2; have P3 := hid p3; have RR := hid rR; have RG := hid rG; have RH := hid rH; have Rg := hid rg; have C1 := hid c1
        clear p1 p2 p3 rR rG rH rg rL c1
        rcases hst : stmpD l (E : Int) (Q : Int)
        · rw [hst] at ST
          have HF : Hid ((decide (t.length = n) && t.all (fun b => stmpD b (E : Int) (Q : Int))) = false) := hid (by
            have : t.all (fun b => stmpD b (E : Int) (Q : Int)) = false := List.all_eq_false.2 ⟨l, List.mem_of_getElem? hlk, by rw [hst]; decide⟩
            rw [this, Bool.and_false])
          clear hst hlk c0'
          go_wp2_with fail
          refine ST.mono ?_
          rintro e ws ⟨rfl, bs⟩
          have sR := (bs.block _ (heap_in RR.out)).trans RR.out
          have sB := rB.trans (bs.mono rB.size)
          have hs := set3 sR (.int .i64 0) (.int .i64 0) (.slice none 0 0)
          obtain ⟨v0, v1, v2⟩ := cells3 hs.1
          obtain ⟨r0, r1, r2⟩ := cells3 sR
          have f0 := frozen_of_row _ w.heap.size 0 _ _ sR
          have f1 := frozen_of_row _ w.heap.size 1 _ _ sR
          have f2 := frozen_of_row _ w.heap.size 2 _ _ sR
          have HB := hid (belowK sB hs.2 (fun b hb => by omega) sB.size)
          clear ST g0 g1 g2 x0 sR hs sB rB bs
          go_wp2
          (try simp only [Exit.inBlock, Exit.then])
          refine bodyPost_ret (v := .tuple #[.agg #[.int .i64 0, .int .i64 0, .slice none 0 0], .int .i64 80]) ?_ rfl ⟨HB.out, fun _ => rfl, fun h => by rw [HF.out] at h; cases h⟩
          simp [results, Try.results11, go_sem, v0, v1, v2]
        · rw [hst] at ST
          have hl4 : l.length = 4096 := (of_decide_eq_true hst).2.2.2.2.1
          obtain ⟨bl, ol, eA, -⟩ := C1.out.at_ (by intro e; rw [e] at hl4; exact absurd hl4 (by decide))
          subst eA
          have HST := hid hst; have HLK := hid hlk; have HL4 := hid hl4
          rw [hl4] at x0 ST c2
          clear hst hlk hl4 c0'
          go_wp2_with fail
          refine ST.mono ?_
          rintro e ws ⟨rfl, bs⟩
          have hzs := bs.size
          have q2d := (own_below P1.out.row bs).drew
          have hlg : gs'.length = n := by have := P1.out.len; rw [nsOf_length] at this; exact this.symm
          obtain ⟨⟨gm, cm⟩, hgm⟩ : ∃ q, gs'[k]? = some q := ⟨gs'[k]'(by omega), List.getElem?_eq_getElem _⟩
          have hvI := hid (imC_at (nsOf inn n) (vals gs') k _ (.slice (some ⟨gm, 0, none⟩) 4096 cm) (nsOf_at inn n k hlt) (by simp [vals, hgm]))
          have sH := own_below RH.out bs
          have i5 := World.ownsRow.cellAt sH k (by omega)
          rw [hvals_at _ _ _ _ hlt] at i5
          have sG := (bs.block _ (heap_in RG.out)).trans RG.out
          have hrd := ((Rg.out.below bs).rd.part (8 + 66 * k) 64)
          rw [Nat.zero_add] at hrd
          have hhl : (hidI inn k).length = 64 := hidI_length inn k n hinn hlt hn2
          have hrd' : RdB ws (some ⟨gi, 8 + 66 * k, none⟩) (hidI inn k) := hrd
          have hdl : 8 + 66 * k + 64 ≤ 4032 := by omega
          obtain ⟨d, hd⟩ : ∃ d, d = 8 + 66 * k := ⟨_, rfl⟩
          rw [← hd] at i5 hrd' hdl
          have SHN := shown_any ws.drew bl ol cl l HL4.out ((C1.out.below bs).below (below_drw (Below.refl _ _))) gi d (ci - d) (hidI inn k) hhl (hrd'.below (below_drw (Below.refl _ _))) (by omega)
          have sX : ws.drew.cell? ⟨Gb, 2, none⟩ = some (.slice (some ⟨Ib, 0, none⟩) n ic) ∧ ws.drew.cell? ⟨Hb, k, none⟩ = some (.slice (some ⟨gi, d, none⟩) 64 (ci - d)) := ⟨(cells3 sG).2.2, i5⟩
          have HBS := hid bs
          clear ST g0 g1 g2 x0 hrd hrd' sH sG i5 hd hhl hgm bs hzs
          go_wp2_with fail
          refine wp_region_held_drew (S := fun W1 => W1.cell? ⟨Gb, 2, none⟩ = some (.slice (some ⟨Ib, 0, none⟩) n ic) ∧ W1.cell? ⟨Hb, k, none⟩ = some (.slice (some ⟨gi, d, none⟩) 64 (ci - d))) (by kernel_rfl) (by exact sX) (fun hHeld => ?_)
          refine wpAnyH_take (i := 0) (oi := ?o0z1) (v := ?v0z1) ?hi0z1 (by kernel_rfl) (by kernel_rfl) ?hr0z1 ?hQ0z1 ?hy0z1 hHeld ?r0z1
          case hi0z1 => (simp only [List.getElem?_toArray, List.getElem?_cons_zero, List.getElem?_cons_succ]; rfl)
          case hr0z1 => kernel_rfl
          case hQ0z1 => exact fun _ _ _ h => h
          case hy0z1 => (refine Or.inl ⟨by rfl, ?_⟩; intro w hSw; (try dsimp only at hSw); go_simp; try with_reducible rfl)
          try simp only [Act.put, List.setIfInBounds_toArray, List.set_cons_zero, List.set_cons_succ]
          refine wpAnyH_take (i := 1) (oi := ?o1z1) (v := ?v1z1) ?hi1z1 (by kernel_rfl) (by kernel_rfl) ?hr1z1 ?hQ1z1 ?hy1z1 hHeld ?r1z1
          case hi1z1 => (simp only [List.getElem?_toArray, List.getElem?_cons_zero, List.getElem?_cons_succ]; rfl)
          case hr1z1 => kernel_rfl
          case hQ1z1 => exact fun _ _ _ h => h
          case hy1z1 => (refine Or.inl ⟨by rfl, ?_⟩; intro w hSw; (try dsimp only at hSw); go_simp; try with_reducible rfl)
          try simp only [Act.put, List.setIfInBounds_toArray, List.set_cons_zero, List.set_cons_succ]
          refine wpAnyH_take (i := 2) (oi := ?o2z1) (v := ?v2z1) ?hi2z1 (by kernel_rfl) (by kernel_rfl) ?hr2z1 ?hQ2z1 ?hy2z1 hHeld ?r2z1
          case hi2z1 => (simp only [List.getElem?_toArray, List.getElem?_cons_zero, List.getElem?_cons_succ]; rfl)
          case hr2z1 => kernel_rfl
          case hQ2z1 => exact fun _ _ _ h => h
          case hy2z1 => (refine Or.inl ⟨by rfl, ?_⟩; intro w hSw; (try dsimp only at hSw); go_simp; try with_reducible rfl)
          try simp only [Act.put, List.setIfInBounds_toArray, List.set_cons_zero, List.set_cons_succ]
          refine wpAnyH_take (i := 3) (oi := ?o3z1) (v := ?v3z1) ?hi3z1 (by kernel_rfl) (by kernel_rfl) ?hr3z1 ?hQ3z1 ?hy3z1 hHeld ?r3z1
          case hi3z1 => (simp only [List.getElem?_toArray, List.getElem?_cons_zero, List.getElem?_cons_succ]; rfl)
          case hr3z1 => kernel_rfl
          case hQ3z1 => exact fun _ _ _ h => h
          case hy3z1 => (refine Or.inl ⟨by rfl, ?_⟩; intro w hSw; (try dsimp only at hSw); go_simp; try with_reducible rfl)
          try simp only [Act.put, List.setIfInBounds_toArray, List.set_cons_zero, List.set_cons_succ]
          refine wpAnyH_take (i := 4) (oi := ?o4z1) (v := ?v4z1) ?hi4z1 (by kernel_rfl) (by kernel_rfl) ?hr4z1 ?hQ4z1 ?hy4z1 hHeld ?r4z1
          case hi4z1 => (simp only [List.getElem?_toArray, List.getElem?_cons_zero, List.getElem?_cons_succ]; rfl)
          case hr4z1 => kernel_rfl
          case hQ4z1 => exact fun _ _ _ h => h
          case hy4z1 => (refine Or.inl ⟨by rfl, ?_⟩; intro w hSw; (try dsimp only at hSw); go_simp; try with_reducible rfl)
          try simp only [Act.put, List.setIfInBounds_toArray, List.set_cons_zero, List.set_cons_succ]
          refine wpAnyH_take (i := 5) (oi := ?o5z1) (v := ?v5z1) ?hi5z1 (by kernel_rfl) (by kernel_rfl) ?hr5z1 ?hQ5z1 ?hy5z1 hHeld ?r5z1
          case hi5z1 => (simp only [List.getElem?_toArray, List.getElem?_cons_zero, List.getElem?_cons_succ]; rfl)
          case hr5z1 => kernel_rfl
          case hQ5z1 => exact fun _ _ _ h => h
          case hy5z1 => (refine Or.inl ⟨by rfl, ?_⟩; intro w hSw; (try dsimp only at hSw); go_simp; try with_reducible rfl)
          try simp only [Act.put, List.setIfInBounds_toArray, List.set_cons_zero, List.set_cons_succ]
          refine wpAnyH_take (i := 6) (oi := ?o6z1) (v := ?v6z1) ?hi6z1 (by kernel_rfl) (by kernel_rfl) ?hr6z1 ?hQ6z1 ?hy6z1 hHeld ?r6z1
          case hi6z1 => (simp only [List.getElem?_toArray, List.getElem?_cons_zero, List.getElem?_cons_succ]; rfl)
          case hr6z1 => kernel_rfl
          case hQ6z1 => exact fun _ _ _ h => h
          case hy6z1 => (refine Or.inl ⟨by rfl, ?_⟩; intro w hSw; (try dsimp only at hSw); go_simp; try with_reducible rfl)
          try simp only [Act.put, List.setIfInBounds_toArray, List.set_cons_zero, List.set_cons_succ]
          refine wpAnyH_take (i := 7) (oi := ?o7z1) (v := ?v7z1) ?hi7z1 (by kernel_rfl) (by kernel_rfl) ?hr7z1 ?hQ7z1 ?hy7z1 hHeld ?r7z1
          case hi7z1 => (simp only [List.getElem?_toArray, List.getElem?_cons_zero, List.getElem?_cons_succ]; rfl)
          case hr7z1 => kernel_rfl
          case hQ7z1 => exact fun _ _ _ h => h
          case hy7z1 => (refine Or.inl ⟨by rfl, ?_⟩; intro w hSw; (try dsimp only at hSw); go_simp; try with_reducible rfl)
          try simp only [Act.put, List.setIfInBounds_toArray, List.set_cons_zero, List.set_cons_succ]
          refine wpAnyH_ready (rs := [8]) (by kernel_rfl) (by simp) (AllReadyH.cons (o := ?o8z1) ?hi8z1 (fun K hK => ?r8z1) AllReadyH.nil)
          case hi8z1 => (simp only [List.getElem?_toArray, List.getElem?_cons_zero, List.getElem?_cons_succ]; rfl)
          go_simp
          refine SHN.mono ?_
          rintro e w9 ⟨g, cg, rfl, hog, b9⟩
          have s9 := And.intro (cell_below b9 sX.1) (cell_below b9 sX.2)
          have o9 := own_below q2d b9
          have cI9 := World.ownsRow.cellAt o9 (k * 2 + 1) (by rw [nsOf_length]; omega)
          rw [hvI.out.2] at cI9
          have fI9 := World.ownsRow.frozenAt o9 (k * 2 + 1)
          have K9 : Kpt (fun b => b = Ib) w9 (w9.setCell ⟨Ib, k * 2 + 1, none⟩ (.slice (some ⟨g, 0, none⟩) 4096 cg)) := (Kpt.refl (fun b => b = Ib) w9).stc rfl _
          have s9s := And.intro (K9.cell s9.1 hGI) (K9.cell s9.2 hHI)
          clear o9
          refine hK.out _ _ (by exact s9) (fun hHeld => ?_)
          clear hK K
          try simp only [Act.put, List.setIfInBounds_toArray, List.set_cons_zero, List.set_cons_succ]
          refine wpAnyH_take (i := 9) (oi := ?o9z1) (v := ?v9z1) ?hi9z1 (by kernel_rfl) (by kernel_rfl) ?hr9z1 ?hQ9z1 ?hy9z1 hHeld ?r9z1
          case hi9z1 => (simp only [List.getElem?_toArray, List.getElem?_cons_zero, List.getElem?_cons_succ]; rfl)
          case hr9z1 => kernel_rfl
          case hQ9z1 => exact fun _ _ _ h => h
          case hy9z1 => (refine Or.inl ⟨by rfl, ?_⟩; intro w hSw; (try dsimp only at hSw); go_simp; try with_reducible rfl)
          try simp only [Act.put, List.setIfInBounds_toArray, List.set_cons_zero, List.set_cons_succ]
          refine wpAnyH_take (i := 10) (oi := ?o10z1) (v := ?v10z1) ?hi10z1 (by kernel_rfl) (by kernel_rfl) ?hr10z1 ?hQ10z1 ?hy10z1 hHeld ?r10z1
          case hi10z1 => (simp only [List.getElem?_toArray, List.getElem?_cons_zero, List.getElem?_cons_succ]; rfl)
          case hr10z1 => kernel_rfl
          case hQ10z1 => exact fun _ _ _ h => h
          case hy10z1 => (refine Or.inl ⟨by rfl, ?_⟩; intro w hSw; (try dsimp only at hSw); go_simp; try with_reducible rfl)
          try simp only [Act.put, List.setIfInBounds_toArray, List.set_cons_zero, List.set_cons_succ]
          refine wpAnyH_ready (rs := [11]) (by kernel_rfl) (by simp) (AllReadyH.cons (o := ?o11z1) ?hi11z1 (fun K hK => ?r11z1) AllReadyH.nil)
          case hi11z1 => (simp only [List.getElem?_toArray, List.getElem?_cons_zero, List.getElem?_cons_succ]; rfl)
          go_simp
          refine hK.out _ _ (by exact s9s) (fun hHeld => ?_)
          clear hK K
          try simp only [Act.put, List.setIfInBounds_toArray, List.set_cons_zero, List.set_cons_succ]
          refine wpAnyH_done (by kernel_rfl) ?_ _
          go_wp2_with fail
          go_roundw
          case rel =>
            have bs := HBS.out
            have hzs := bs.size
            have bd : Below ws.heap.size ws ws.drew := below_drw (Below.refl _ _)
            have K9 : Kpt (fun b => b = Ib) w9 (w9.setCell ⟨Ib, k * 2 + 1, none⟩ (.slice (some ⟨g, 0, none⟩) 4096 cg)) := (Kpt.refl (fun b => b = Ib) w9).stc rfl _
            have hz9 : ws.heap.size ≤ w9.heap.size := b9.size
            refine ⟨k + 1, by omega, by go_num, gs'.set k (g, cg), ?_, (((P2.out.trans (Kpt.of_below bs)).trans (Kpt.of_below bd)).trans (Kpt.of_below b9)).trans K9, ?_⟩
            · rw [← datI_set inn t n k l HLK.out]
              refine OwIm.put (((P1.out.below bs).below bd).below b9) k (hog.mono (by have := HWZ.out; show _ ≤ ws.heap.size; omega)) (by rw [shownB_length, HL4.out]) ?_
              intro h
              obtain ⟨q, hq, e⟩ := List.mem_map.1 h
              have h1 := (P1.out.blk.lt hq).2
              have h2 : ws.heap.size ≤ g := hog.lt.1
              omega
            · intro j x hj hx
              by_cases e : j = k
              · subst e
                rw [HLK.out] at hx
                cases hx
                exact HST.out
              · exact P3.out j x (by omega) hx
          case measure => simp [intOf]; omega
      · obtain rfl : k = n := by omega
        have HF : Hid ((decide (t.length = k) && t.all (fun b => stmpD b (E : Int) (Q : Int))) = true) := hid (by
          rw [decide_eq_true htl.out, Bool.true_and]
          refine List.all_eq_true.2 fun l hl => ?_
          obtain ⟨j, hj, rfl⟩ := List.getElem_of_mem hl
          exact p3 j _ (by rw [← htl.out]; exact hj) (List.getElem?_eq_getElem hj))
        have hs := set3 rR (.int .i64 (E : Int)) (.int .i64 (Q : Int)) (.slice (some ⟨Ib, 0, none⟩) k ic)
        obtain ⟨v0, v1, v2⟩ := cells3 hs.1
        obtain ⟨r0, r1, r2⟩ := cells3 rR
        obtain ⟨g0, g1, g2⟩ := cells3 rG
        have f0 := frozen_of_row _ w.heap.size 0 _ _ rR
        have f1 := frozen_of_row _ w.heap.size 1 _ _ rR
        have f2 := frozen_of_row _ w.heap.size 2 _ _ rR
        have HB := hid (belowK rB hs.2 (fun b hb => by omega) rB.size)
        have HP := hid ((p1.kpt hs.2 (fun b hb e => by have := own_base p1.row b (own_img p1.row hb); omega) (fun q hq e => by have := (p1.blk.lt hq).1; omega)).mono (Nat.le_succ w.heap.size))
        clear p1 p2 p3 rR rG rH rg rL rB hs
        go_wp2
        (try simp only [Exit.inBlock, Exit.then])
        refine bodyPost_ret (v := .tuple #[.agg #[.int .i64 (E : Int), .int .i64 (Q : Int), .slice (some ⟨Ib, 0, none⟩) k ic], .int .i64 0]) ?_ rfl ⟨HB.out, fun h => (by rw [HF.out] at h; cases h), fun _ => ⟨_, _, _, rfl, HP.out⟩⟩
        simp [results, Try.results11, go_sem, v0, v1, v2]
  · have hne2 : (((N : Nat) : Int) == (n : Int) + 1) = false := by simpa using (show ¬ ((N : Int) = (n : Int) + 1) by omega)
    have HF : Hid ((decide (t.length = n) && t.all (fun b => stmpD b (E : Int) (Q : Int))) = false) := hid (by rw [decide_eq_false (by have := HNe.out; omega)]; rfl)
    have hs := set3 hR2 (.int .i64 0) (.int .i64 0) (.slice none 0 0)
    obtain ⟨v0, v1, v2⟩ := cells3 hs.1
    obtain ⟨r0, r1, r2⟩ := cells3 hR2
    have f0 := frozen_of_row _ w.heap.size 0 _ _ hR2
    have f1 := frozen_of_row _ w.heap.size 1 _ _ hR2
    have f2 := frozen_of_row _ w.heap.size 2 _ _ hR2
    have HB := hid (belowK hB2 hs.2 (fun b hb => by omega) hB2.size)
    clear hn hs hB2 hR2 hG2 b2 hR1 hz1 hbb q1 q2 q3 b1 hb0 hrow0 xA
    go_wp2_with fail
    refine (BL _).mono ?_
    rintro e w' ⟨rfl, rfl⟩
    clear BL
    go_wp2
    refine bodyPost_ret (v := .tuple #[.agg #[.int .i64 0, .int .i64 0, .slice none 0 0], .int .i64 80]) ?_ rfl ⟨HB.out, fun _ => rfl, fun h => by rw [HF.out] at h; cases h⟩
    simp [results, Try.results11, go_sem, v0, v1, v2]
theorem Get_any (w : World) (a : Option Addr) (N c : Nat) (h : List UInt8) (t : List (List UInt8)) (hN : N = t.length + 1) (hNc : N ≤ c ∧ c ≤ 9223372036854775807) (hNl : N ≤ 1000000) (hl : ∀ l ∈ h :: t, l.length ≤ 200000000000000) (hr : RdLs w a (h :: t)) (hb : ∀ b, blkOf a b → b < w.heap.size) :
    Calls Try.prog 11 #[.slice a N c] w (GtPost w (h :: t)) := by
  obtain ⟨b, off, A0, c0, rfl, x0, y0, z0⟩ := hr 0 h rfl
  cases hh : isHead h with
  | true =>
    refine (Get_yes w b off N c h t hN hNc hNl hl hr (hb b rfl) hh).mono ?_
    have hG : getOK (h :: t) = (decide (t.length = nOf (gathB h)) && t.all (fun b => stmpD b (epOf h : Int) (seqOf h : Int))) := by simp [getOK, hh]
    rintro e w' ⟨k1, k2, k3⟩
    refine ⟨k1, fun hf => k2 (by rw [← hG]; exact hf), fun hf => ?_⟩
    obtain ⟨A, c', gs, k4, k5⟩ := k3 (by rw [← hG]; exact hf)
    exact ⟨h, t, A, c', gs, rfl, k4, k5⟩
  | false =>
    have hrow0 := heap_alloc_new w (.cells #[.int .i64 0, .int .i64 0, .slice none 0 0] 28)
    have hb0 : Below w.heap.size w (w.alloc (.cells #[.int .i64 0, .int .i64 0, .slice none 0 0] 28)) := (Below.refl _ _).alloc (Nat.le_refl _) _
    rw [Nat.add_zero] at x0
    have xA := cell_below hb0 x0
    have HD := head_any (w.alloc (.cells #[.int .i64 0, .int .i64 0, .slice none 0 0] 28)) A0 h.length c0 h rfl (hl h (by simp)) z0 (y0.below hb0)
    unfold HdPost at HD
    have hne : ((N : Int) == 0) = false := by simpa using (show ¬ ((N : Int) = 0) by omega)
    have hN0 : (0 : Int) < (N : Int) := by omega
    have hp1 : 0 < N := by omega
    have HNe := hid hN
    have HF := hid (show getOK (h :: t) = false by simp [getOK, hh])
    clear hN x0
    rw [hh] at HD
    clear hh
    go_enter Try.func11, Try.ntmps11
    go_wp2_with fail
    refine HD.mono ?_
    rintro e w1 ⟨b1, ep, seq, ia, im, ic, ha, hm, hc, rfl, -⟩
    clear HD
    have hbb := hb0.trans (b1.mono hb0.size)
    have hR1 := (b1.block _ (heap_in hrow0)).trans hrow0
    have b2 : Below w1.heap.size w1 (w1.alloc (.cells #[.int .i64 ep, .int .i64 seq, .slice ia im ic] 28)) := (Below.refl _ _).alloc (Nat.le_refl _) _
    have hR2 := (b2.block _ (heap_in hR1)).trans hR1
    have hB2 := hbb.trans (b2.mono hbb.size)
    have hs := set3 hR2 (.int .i64 0) (.int .i64 0) (.slice none 0 0)
    obtain ⟨v0, v1, v2⟩ := cells3 hs.1
    obtain ⟨r0, r1, r2⟩ := cells3 hR2
    have f0 := frozen_of_row _ w.heap.size 0 _ _ hR2
    have f1 := frozen_of_row _ w.heap.size 1 _ _ hR2
    have f2 := frozen_of_row _ w.heap.size 2 _ _ hR2
    have HB := hid (belowK hB2 hs.2 (fun b hb => by omega) hB2.size)
    clear hR1 hR2 hrow0 hb0 hbb b1 hr y0 xA hs hB2 b2
    go_wp2
    refine bodyPost_ret (v := .tuple #[.agg #[.int .i64 0, .int .i64 0, .slice none 0 0], .int .i64 80]) ?_ rfl ⟨HB.out, fun _ => rfl, fun h => by rw [HF.out] at h; cases h⟩
    simp [results, Try.results11, go_sem, v0, v1, v2]
end Go.Proofs.Ytknhfaplddgnlaa
