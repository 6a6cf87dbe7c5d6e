/- Write: the walk. -/
import Derived.Test.YtddejjmebokgiaaDkD
namespace Go.Proofs.Ytddejjmebokgiaa
open Go.RowKit
variable {Q : Nat → Prop}
set_option maxHeartbeats 3200000
set_option maxRecDepth 100000
set_option linter.unusedVariables false
set_option linter.unusedSimpArgs false

theorem below_new' (w : World) (o : Obj) : Below w.heap.size w (w.drew.alloc o) := (show Below w.heap.size w w.drew from ⟨rfl, rfl, rfl, Nat.le_refl _, fun _ _ => rfl⟩).alloc (Nat.le_refl _) o
theorem bW' (v : World) (o : Obj) : Below v.heap.size v (v.drew.alloc o) := below_new' v o
theorem Turn.pre {base : Nat} {w w1 w' : World} {D : Nat} {S : Nat → Prop} {d' : Dk} (k : Kpt (fun b => b = D) w w1) (hS : S D) (h : Turn Q base w1 D S w' d') : Turn Q base w D S w' d' := by
  obtain ⟨S', h1, h2, h3⟩ := h
  exact ⟨S', h1, (k.mono (by rintro b rfl; exact hS)).trans h2, fun b hb => (h3 b hb).imp id (fun q => Nat.le_trans k.size q)⟩
theorem Write_is {base : Nat} (w : World) (D : Nat) {S : Nat → Prop} {d : Dk} (h : IsDk Q base w D S d) (hw : d.wn.length < 1000000) (n : Int) (a : Option Addr) (c N : Nat) (b : List UInt8) (hN : N = b.length) (hr : RdU w a b) :
    Calls Try.prog 17 #[ptr D, .int .i64 n, .slice a N c] w fun e w' => e = .returned (.int .i64 (d.wrE n b)) ∧ Turn (Qp Q w) base w D S w' (d.wrD n b) := by
  subst hN
  replace h : IsDk (Qp Q w) base w D S d := h.monoQ (fun b hb => .inl hb)
  have HW := fun w => wrong_is (Q := Qp Q w) (base := base) w D (S := S) (d := d)
  have HS := fun w => stopped_is (Q := Qp Q w) (base := base) w D (S := S) (d := d)
  have hS := h.inS
  have HT0 := Turn.of h (Kpt.refl _ w) hS
  unfold ptr at *
  unfold Dk.wrE Dk.wrD
  by_cases h0 : d.wrong n = 0
  · simp only [ne_eq, h0, not_true, if_false]
    obtain ⟨h1, h2⟩ := wrong_in h0
    obtain ⟨m, rfl⟩ : ∃ m : Nat, n = m := ⟨n.toNat, by omega⟩
    simp only [Int.toNat_natCast] at h2 ⊢
    by_cases hb : b.length = 4096
    · simp only [ne_eq, hb, not_true, if_false]
      by_cases hs : d.stopE = 0
      · simp only [ne_eq, hs, not_true, if_false]
        obtain ⟨gb, ob, rfl, hrb, hub⟩ := hr (by intro e; rw [e] at hb; simp at hb)
        have C := fun w (hr : RdB w (some ⟨gb, ob, none⟩) b) => CloneB_any w gb ob c 4096 b hb.symm (by omega) hr
        have H0 := hid h0; have HSS := hid hs
        obtain ⟨q1, q2, q3, q4, q5⟩ := stopD_same d
        have HN := hid h.nou
        generalize d.stopD = d1 at *
        have hn1 : m < d1.now.length := by rw [q2]; exact h2
        have hw1 : d1.wn.length < 1000000 := by rw [q3]; exact hw
        have Hb := hid hb
        clear hr q1 q2 q3 q4 q5 h0 hs hw h2 h1 HT0
        go_enter Try.func17, Try.ntmps17
        go_wp2_with fail
        refine (HW _ h _).mono ?_
        rw [H0.out]
        rintro e w' ⟨rfl, rfl⟩
        go_wp2_with fail
        refine (HS _ h).mono ?_
        rw [HSS.out]
        rintro e w1 ⟨rfl, h3, k3⟩
        have hrb1 : RdB w1 (some ⟨gb, ob, none⟩) b := hrb.kpt k3 (by rintro rfl; exact HN.out _ hS hub)
        have HH := hid h
        have H3 := hid h3
        clear h hb
        go_wp2_with fail
        refine (C _ hrb1).mono ?_
        rintro e w2 ⟨A2, c2, rfl, g2, b2⟩
        obtain ⟨gd, rfl, hgd1, hgd2⟩ := own_adr g2 (by intro e; have := Hb.out; rw [e] at this; simp at this)
        have hd2 := Dat.own (Q := Qp Q w) g2 (.inr (Nat.le_trans k3.size hgd1))
        rw [Hb.out] at hd2
        have h4 := H3.out.below b2
        obtain ⟨vs, gn, cn, vw, hSS, hD, hr4, hp4, ho4⟩ := h4.open_
        have hp4' := hp4
        obtain ⟨xw, hxw, hdw⟩ := hp4'.w
        obtain ⟨-, e1, e2, e3, -⟩ := nine hr4
        have hDlt := heap_in hr4
        have hf4 := frow hr4 2
        have KX := hid (show w1.heap.size ≤ w2.heap.size from b2.size)
        have HR4 := hid hr4; have HP4 := hid hp4; have HO4 := hid ho4; have HXW := hid hxw; have HDW := hid hdw; have HD2 := hid hd2; have HB2 := hid b2; have HSS2 := hid hSS; have HK3 := hid k3
        clear hr4 hp4 hp4' ho4 hxw hdw hd2 b2 hSS k3 g2 hrb1 h4
        go_wp2_with fail
        obtain ⟨v, hv⟩ : ∃ v, v = w2.alloc (.cells #[.int .i64 (m : Int), .slice (some ⟨gd, 0, none⟩) 4096 c2] 78) := ⟨_, rfl⟩
        have bv : Below w2.heap.size w2 v := by rw [hv]; exact (Below.refl _ _).alloc (Nat.le_refl _) _
        have hz : v.heap[w2.heap.size]? = some (.cells #[.int .i64 (m : Int), .slice (some ⟨gd, 0, none⟩) 4096 c2] 78 (0, 0)) := by rw [hv]; exact heap_alloc_new w2 _
        rw [← hv]
        have hvs : w2.heap.size < v.heap.size := heap_in hz
        clear hv
        obtain ⟨o0, o1⟩ := two hz
        have bW : ∀ o, Below w2.heap.size w2 (v.drew.alloc o) := fun o => (bv.trans ((below_new' v o).mono bv.size))
        have hrv := HR4.out
        have e2v : v.cell? ⟨D, 2, none⟩ = some vw := cell_below bv e2
        have e2a : ∀ o, (v.alloc o).cell? ⟨D, 2, none⟩ = some vw := fun o => cell_below ((Below.refl _ _).alloc (Nat.le_refl _) o) e2v
        have o01a : ∀ o, (v.alloc o).cell? ⟨w2.heap.size, 0, none⟩ = some (.int .i64 (m : Int)) ∧ (v.alloc o).cell? ⟨w2.heap.size, 1, none⟩ = some (.slice (some ⟨gd, 0, none⟩) 4096 c2) := fun o => ⟨cell_below ((Below.refl _ _).alloc (Nat.le_refl _) o) o0, cell_below ((Below.refl _ _).alloc (Nat.le_refl _) o) o1⟩
        have oa0 := fun o => (o01a o).1
        have oa1 := fun o => (o01a o).2
        clear o01a
        have hxd : ∀ b, vw.ownBlock = some b → b ≠ w2.heap.size := fun b hb => by have := (own_row HXW.out hb).2.1; omega
        have HZ := hid hz; have HVS := hid hvs; have HXD := hid hxd; have HBV := hid bv
        clear hz bv hrv hvs hxd e2 hf4
        go_region_law (refine step_own2 rfl (.tmp 32) (.tmp 34) 70 78 (.agg #[.int .i64 0, .slice none 0 0]) 2 32 rfl Try.underlying70 info_W rfl (by decide) (by decide) base vw d1.wn.length (wcells d1.wn xw) rfl (own_below HXW.out (bW _)) (some ⟨v.heap.size, 0, none⟩) 1 1 [.int .i64 (m : Int), .slice (some ⟨gd, 0, none⟩) 4096 c2] rfl rfl (RdV.new v.drew _ _) (by simp [Value.oneCell']) (by omega) (by have := HVS.out; simp; omega) ?_; intro A5 c5 w5 h5 h6; have hr5 := put_row ((bW _).block D hDlt |>.trans HR4.out) (own_below HXW.out (bW _)) h6; obtain ⟨-, -, z2, -⟩ := nine hr5.1; have zf := frow hr5.1 2; have HR5 := hid hr5; have H5 := hid h5; have H6 := hid h6; clear hr5 h5 h6)
        all_goals
          have hl4 : Below w1.heap.size w1 (v.drew.alloc (.cells #[.int .i64 (m : Int), .slice (some ⟨gd, 0, none⟩) 4096 c2] 78)) := HB2.out.trans ((bW _).mono KX.out)
          have hDb := hid ((HB2.out.trans ((bW (.cells #[.int .i64 (m : Int), .slice (some ⟨gd, 0, none⟩) 4096 c2] 78)).mono KX.out)))
          have PM := put_mem (base := base) (w1 := w1) (w4 := v.drew.alloc (.cells #[.int .i64 (m : Int), .slice (some ⟨gd, 0, none⟩) 4096 c2] 78)) (w5 := w5) (D := D) (n := m) (S := S) (d := d1) (vs := vs) (vw := vw) (vw' := .slice A5 (d1.wn.length + 1) c5) (gn := gn) (cn := cn) (u := .slice (some ⟨gd, 0, none⟩) 4096 c2) (b := b) (xw := xw)
            hl4 (Nat.le_trans hD (Nat.le_of_lt (h3.blocks hS).2.1)) HSS2.out hD (fun b hb => (h3.blocks hb).2.1) (((bW _).block D hDlt).trans HR4.out) (HP4.out.kpt (T := fun _ => False) (.of_below (bW _)) (fun _ h => h.elim) (fun _ _ h => h) (fun _ _ h => h) (fun _ _ h => h)) HO4.out hn1 Hb.out hw1 (HD2.out.below (bW _)) (own_below HXW.out (bW _)) (HDW.out.below (bW _)) H5.out H6.out
          obtain ⟨x, hr6, hc6, hf6, hfin⟩ := PM
          have hz5 := HR5.out.2 w2.heap.size _ (by have := HVS.out; simp; omega) (((bW' v _).block _ HVS.out).trans HZ.out) HXD.out
          have hz6 := (heap_setCell_other w5 ⟨D, 2, none⟩ w2.heap.size (.slice A5 (d1.wn.length + 1) c5) (by simp; omega)).trans hz5
          obtain ⟨w6, hw6⟩ : ∃ w6, w6 = w5.setCell ⟨D, 2, none⟩ (.slice A5 (d1.wn.length + 1) c5) := ⟨_, rfl⟩
          rw [← hw6] at hr6 hc6 hf6 hfin hz6 ⊢
          obtain ⟨hrA, hTA⟩ := hfin w6 (.inl rfl)
          obtain ⟨hrB, hTB⟩ := hfin w6.drew (.inr rfl)
          obtain ⟨-, y1, -⟩ := nine hr6
          obtain ⟨-, y2⟩ := two hz6
          obtain ⟨-, -, -, a3, -⟩ := nine hrA
          obtain ⟨-, -, -, b3, -⟩ := nine hrB
          have aF := frow hrA 3
          have bF := frow hrB 3
          have HTA := hid hTA; have HTB := hid hTB
          clear hrA hrB hTA hTB hfin hr6 hz5 hz6 hw6 hl4 hDb zf z2 bW oa0 oa1 e2a e2v o0 o1 e1 e3 HS HW C
          go_wp2_with fail
          go_region
          all_goals
            go_wp2_with fail
            go_ret
            exact ⟨rfl, Turn.pre HK3.out hS (by first | exact HTA.out | exact HTB.out)⟩
      · simp only [ne_eq, hs, not_false_eq_true, if_true]
        have H0 := hid h0
        clear h0 hr HT0
        rw [← hb]
        have Hb := hid hb
        have hbi : ((b.length : Int) == 4096) = true := by rw [hb]; rfl
        go_enter Try.func17, Try.ntmps17
        go_wp2_with fail
        refine (HW _ h _).mono ?_
        rw [H0.out]
        rintro e w' ⟨rfl, rfl⟩
        go_wp2_with fail
        refine (HS _ h).mono ?_
        rintro e w1 ⟨rfl, h3, k3⟩
        go_wp2
        go_ret
        exact ⟨rfl, Turn.of h3 k3 hS⟩
    · simp only [ne_eq, hb, not_false_eq_true, if_true]
      have H0 := hid h0
      clear h0 hr
      have HH := hid HT0
      clear HT0
      go_enter Try.func17, Try.ntmps17
      go_wp2_with fail
      refine (HW _ h _).mono ?_
      rw [H0.out]
      rintro e w' ⟨rfl, rfl⟩
      go_wp2
      go_ret
      exact ⟨rfl, HH.out⟩
  · simp only [ne_eq, h0, not_false_eq_true, if_true]
    have HH := hid HT0
    clear HT0 hr
    go_enter Try.func17, Try.ntmps17
    go_wp2_with fail
    refine (HW _ h _).mono ?_
    rintro e w' ⟨rfl, rfl⟩
    go_wp2
    go_ret
    exact ⟨rfl, HH.out⟩
end Go.Proofs.Ytddejjmebokgiaa
