/- Crash: the walk. -/
import Derived.Test.YtddejjmebokgiaaDkH
namespace Go.Proofs.Ytddejjmebokgiaa
open Go.RowKit
variable {Q : Nat → Prop}
set_option maxHeartbeats 3200000
set_option maxRecDepth 100000
set_option linter.unusedVariables false
set_option linter.unusedSimpArgs false

theorem Crash_is {base : Nat} (w : World) (D : Nat) {S : Nat → Prop} {d : Dk} (h : IsDk Q base w D S d) (a : Option Addr) (c N : Nat) (ks : List Bool) (hN : N = ks.length) (hks : ks.length ≤ 200000000000000) (hr : RdV w a (Bools ks)) (hka : 0 < ks.length → ∀ x off, a = some ⟨x, off, none⟩ → ¬ S x) (at_ : Int) (s : Nat) (hs : s < 256) :
    Calls Try.prog 11 #[ptr D, .slice a N c, .int .i64 at_, .int .u8 (s : Int)] w fun e w' => e = .returned (.int .i64 0) ∧ Turn (Qp Q w) base w D S w' (d.crash ks at_ s) := by
  subst hN
  replace h : IsDk (Qp Q w) base w D S d := h.monoQ (fun b hb => .inl hb)
  have hn := fun w => none_is (Q := Qp Q w) (base := base) w D (S := S) (d := d)
  have hin := hid (fun b (hb : S b) => (h.blocks hb).2.1)
  unfold ptr at *
  have H := hid h
  obtain ⟨vs, vn, vw, hS, hD, hr0, hp, ho⟩ := h
  obtain ⟨xs, gs, cs, rfl, hs2, hs3⟩ := hp.s
  obtain ⟨xw, hxw, hdw⟩ := hp.w
  obtain ⟨A, c0, rfl, hc0, _⟩ := own_slice hxw
  have hgsS : S gs := by rw [hS]; exact .inr (.inl rfl)
  -- the writes, in memory
  have hW : ∀ k, k < d.wn.length → ∃ (g b off cc n : Nat), A = some ⟨g, 0, none⟩ ∧ w.cell? ⟨g, k * 2, none⟩ = some (.int .i64 (n : Int)) ∧ w.cell? ⟨g, k * 2 + 1, none⟩ = some (.slice (some ⟨b, off, none⟩) 4096 cc) ∧ d.wn.getD k 0 = n ∧ n < d.safe.length ∧ g ≠ gs ∧ Dat (Qp Q w) w (.slice (some ⟨b, off, none⟩) 4096 cc) (d.wd.getD k []) ∧ (d.wd.getD k []).length = 4096 := by
    intro k hk
    obtain ⟨g, c', e, hg1, hg2⟩ := own_slice' hxw (by omega) (by decide)
    simp only [Value.slice.injEq, true_and] at e
    obtain ⟨rfl, rfl⟩ := e
    have hkd : k < d.wd.length := by rw [← ho.wlen]; exact hk
    obtain ⟨u, hu, hdat⟩ := hdw.at_ (i := k) hkd
    have hl := ho.w4 _ (List.getElem_mem hkd)
    have hdat0 := hdat
    obtain ⟨b, off, cc, rfl, _, _⟩ := hdat.rd
    rw [hl] at hu hdat0
    obtain ⟨q1, q2⟩ := wcells_at d.wn xw k d.wn[k] _ (List.getElem?_eq_getElem hk) hu
    have hg : d.wd.getD k [] = d.wd[k] := by rw [List.getD_eq_getElem?_getD, List.getElem?_eq_getElem hkd]; rfl
    have hgn : d.wn.getD k 0 = d.wn[k] := by rw [List.getD_eq_getElem?_getD, List.getElem?_eq_getElem hk]; rfl
    exact ⟨g, b, off, cc, d.wn[k], rfl, (RdV.own hxw).two _ _ q1, (RdV.own hxw).two _ _ q2, hgn, by rw [ho.len]; exact ho.win _ (List.getElem_mem hk), (by rintro rfl; exact own_ne hxw hs2 (by decide) rfl rfl), by rw [hg]; exact hdat0, by rw [hg]; exact hl⟩
  have hK : ∀ k, k < ks.length → ∃ x off, a = some ⟨x, off, none⟩ ∧ w.cell? ⟨x, off + k, none⟩ = some (.bool (ks.getD k false)) ∧ x ≠ gs := by
    intro k hk
    obtain ⟨x, off, rfl, q⟩ := hr (bools_ne hk)
    refine ⟨x, off, rfl, q k _ ?_, by rintro rfl; exact hka (by omega) x off rfl hgsS⟩
    simp [Bools, hk]
  have hL0 : CrL (Qp Q w) base w D d (.slice (some ⟨gs, 0, none⟩) d.safe.length cs) vn (.slice A d.wn.length c0) gs (d.crS ks at_ s 0) w := ⟨hr0, ⟨⟨xs, gs, cs, rfl, hs2, hs3⟩, hp.n, hp.w, hp.ne⟩, Kpt.refl _ _⟩
  have hnu : ¬ U8 w gs := own_nou hs2 (by decide) rfl
  obtain ⟨-, -, c2, -⟩ := nine hr0
  have hwm := ho.wmax
  have hsl : d.safe.length ≤ 512 := by rw [ho.len]; exact ho.max
  have hpos : 0 < d.safe.length := by rw [ho.len]; exact ho.pos
  have H4 := hid (crS_4 ho ks at_ s)
  have HLN := hid (crS_length d ks at_ s)
  have HC := hid (ho.crash ks at_ s)
  have HS0 := hid hS; have HW := hid hW; have HK := hid hK; have HL0 := hid hL0; have HNU := hid hnu
  have HSZ := hid (show base ≤ w.heap.size from Nat.le_trans hD (Nat.le_of_lt (heap_in hr0)))
  clear hW hK hL0 hnu hS hr0 hp ho hs2 hs3 hxw hdw hr hka
  unfold Dk.crash at HC ⊢
  generalize hM : d.wn.length = M at *
  generalize hSL : d.safe.length = SL at *
  have HSL := hid hSL
  clear hM hSL
  go_enter Try.func11, Try.ntmps11
  go_wp2_with fail
  refine (hn _ H.out).mono ?_
  rintro e w' ⟨rfl, rfl⟩
  clear hn
  go_wp2_with fail
  go_loopw [18] (fun i wr => ∃ k : Nat, k ≤ M ∧ i = .int .i64 k ∧ CrL (Qp Q w) base w D d (.slice (some ⟨gs, 0, none⟩) SL cs) vn (.slice A M c0) gs (d.crS ks at_ s k) wr) (fun i _ => M - (intOf i).toNat)
  case atStart => exact ⟨0, by omega, rfl, HL0.out⟩
  case round =>
    obtain ⟨k, hk, rfl, hcr⟩ := hrel
    by_cases hlt : k < M
    · obtain ⟨g, b, off, cc, n, rfl, q1, q2, q3, q4, q5, q6, q7⟩ := HW.out k hlt
      have hcap := q6.cap
      rw [q7] at hcap
      obtain ⟨hcap1, hcap2⟩ := hcap
      have q6k := q6.kpt hcr.kpt (by rintro b rfl; exact HNU.out)
      have p1 := hcr.kpt.cell q1 q5
      have p2 := hcr.kpt.cell q2 q5
      obtain ⟨b0, o0, c1, r1, r2, r3, r4⟩ := CrL.cell' HSL.out hcr (H4.out k (Nat.le_of_lt hlt)) n (by rw [HLN.out k]; exact q4)
      have r6 := q6k.rdb
      have hLk : (d.crS ks at_ s k).length = SL := HLN.out k
      have h4k := H4.out k (Nat.le_of_lt hlt)
      obtain ⟨v, hv⟩ : ∃ v, v = wr.alloc (.cells #[.int .i64 (n : Int), .slice (some ⟨b, off, none⟩) 4096 cc] 78) := ⟨_, rfl⟩
      have bv : Below wr.heap.size wr v := by rw [hv]; exact (Below.refl _ _).alloc (Nat.le_refl _) _
      have hz : v.heap[wr.heap.size]? = some (.cells #[.int .i64 (n : Int), .slice (some ⟨b, off, none⟩) 4096 cc] 78 (0, 0)) := by rw [hv]; exact heap_alloc_new wr _
      have hcv := hcr.below bv
      obtain ⟨z0, z1⟩ := two hz
      obtain ⟨y0, -⟩ := nine hcv.row
      have hgD : D ≠ gs := by
        obtain ⟨ys, gs', cs', t1, t2, t3⟩ := hcr.prt.s
        simp only [Value.slice.injEq, Option.some.injEq, Addr.mk.injEq, and_true, true_and] at t1
        obtain ⟨rfl, -, rfl⟩ := t1
        exact fun e => own_neD t2 hcr.row (by decide) rfl e.symm
      have hgz : wr.heap.size ≠ gs := by have := World.block_lt_of_cell? wr ⟨gs, n, none⟩ r1; simp only at this; omega
      have sv : v.cell? ⟨D, 0, none⟩ = some (.slice (some ⟨gs, 0, none⟩) SL cs) ∧ v.cell? ⟨wr.heap.size, 0, none⟩ = some (.int .i64 (n : Int)) ∧ v.cell? ⟨wr.heap.size, 1, none⟩ = some (.slice (some ⟨b, off, none⟩) 4096 cc) := ⟨y0, z0, z1⟩
      have svd : v.drew.cell? ⟨D, 0, none⟩ = some (.slice (some ⟨gs, 0, none⟩) SL cs) ∧ v.drew.cell? ⟨wr.heap.size, 0, none⟩ = some (.int .i64 (n : Int)) ∧ v.drew.cell? ⟨wr.heap.size, 1, none⟩ = some (.slice (some ⟨b, off, none⟩) 4096 cc) := sv
      have xv := cell_below bv r1
      have fv : v.frozen? ⟨gs, n, none⟩ = false := by obtain ⟨_, _, _, _, _, _, q⟩ := CrL.cell' HSL.out hcv h4k n (by rw [hLk]; exact q4); exact q
      have Q3 := hid q3; have Q6 := hid (q6k.below bv); have Q7 := hid q7
      have BV := hid bv; have HV := hid hv; have HCR := hid hcr; have HCV := hid hcv; have HLK := hid hLk; have H4K := hid h4k
      have R2 := hid (r2.below bv); have R6 := hid (r6.below bv); have R3 := hid r3; have HGD := hid hgD; have HGZ := hid hgz
      clear q3 q6 q6k q7 hz bv hcr hcv hLk h4k r2 r6 r3 r4 q1 q2 q5 hgD hgz z0 z1 y0 r1
      by_cases hat : (k : Int) = at_
      · have hd : ((k : Int) == at_) = true := by simp [hat]
        have HAT := hid hat
        have T := torn_any v.drew b0 o0 c1 b off cc _ _ s R3.out Q7.out R2.out R6.out hs hcap1 hcap2
        have T' := hid T
        clear hat hv T
        go_wp2_with fail
        rw [← HV.out]
        refine wp_region_held_drew (S := (fun W => W.cell? ⟨D, 0, none⟩ = some (.slice (some ⟨gs, 0, none⟩) SL cs) ∧ W.cell? ⟨wr.heap.size, 0, none⟩ = some (.int .i64 (n : Int)) ∧ W.cell? ⟨wr.heap.size, 1, none⟩ = some (.slice (some ⟨b, off, none⟩) 4096 cc))) (by kernel_rfl) svd (fun hHeld => ?_)
        refine wpAnyH_take (i := 0) (v := ?_) rfl (by kernel_rfl) (by kernel_rfl) (by kernel_rfl) (fun _ _ _ h => h) (Or.inl ⟨by rfl, ?_⟩) (by assumption) ?_
        rotate_left
        · intro w hSw; (try dsimp only at hSw); go_simp; try with_reducible rfl
        try simp only [Act.put, List.setIfInBounds_toArray, List.set_cons_zero, List.set_cons_succ]
        refine wpAnyH_take (i := 1) (v := ?_) rfl (by kernel_rfl) (by kernel_rfl) (by kernel_rfl) (fun _ _ _ h => h) (Or.inl ⟨by rfl, ?_⟩) (by assumption) ?_
        rotate_left
        · intro w hSw; (try dsimp only at hSw); go_simp; try with_reducible rfl
        try simp only [Act.put, List.setIfInBounds_toArray, List.set_cons_zero, List.set_cons_succ]
        refine wpAnyH_take (i := 2) (v := ?_) rfl (by kernel_rfl) (by kernel_rfl) (by kernel_rfl) (fun _ _ _ h => h) (Or.inl ⟨by rfl, ?_⟩) (by assumption) ?_
        rotate_left
        · intro w hSw; (try dsimp only at hSw); go_simp; try with_reducible rfl
        try simp only [Act.put, List.setIfInBounds_toArray, List.set_cons_zero, List.set_cons_succ]
        refine wpAnyH_take (i := 3) (v := ?_) rfl (by kernel_rfl) (by kernel_rfl) (by kernel_rfl) (fun _ _ _ h => h) (Or.inl ⟨by rfl, ?_⟩) (by assumption) ?_
        rotate_left
        · intro w hSw; (try dsimp only at hSw); go_simp; try with_reducible rfl
        try simp only [Act.put, List.setIfInBounds_toArray, List.set_cons_zero, List.set_cons_succ]
        refine wpAnyH_take (i := 4) (v := ?_) rfl (by kernel_rfl) (by kernel_rfl) (by kernel_rfl) (fun _ _ _ h => h) (Or.inl ⟨by rfl, ?_⟩) (by assumption) ?_
        rotate_left
        · intro w hSw; (try dsimp only at hSw); go_simp; try with_reducible rfl
        try simp only [Act.put, List.setIfInBounds_toArray, List.set_cons_zero, List.set_cons_succ]
        refine wpAnyH_take (i := 5) (v := ?_) rfl (by kernel_rfl) (by kernel_rfl) (by kernel_rfl) (fun _ _ _ h => h) (Or.inl ⟨by rfl, ?_⟩) (by assumption) ?_
        rotate_left
        · intro w hSw; (try dsimp only at hSw); go_simp; try with_reducible rfl
        try simp only [Act.put, List.setIfInBounds_toArray, List.set_cons_zero, List.set_cons_succ]
        refine wpAnyH_take (i := 6) (v := ?_) rfl (by kernel_rfl) (by kernel_rfl) (by kernel_rfl) (fun _ _ _ h => h) (Or.inl ⟨by rfl, ?_⟩) (by assumption) ?_
        rotate_left
        · intro w hSw; (try dsimp only at hSw); go_simp; try with_reducible rfl
        try simp only [Act.put, List.setIfInBounds_toArray, List.set_cons_zero, List.set_cons_succ]
        refine wpAnyH_take (i := 7) (v := ?_) rfl (by kernel_rfl) (by kernel_rfl) (by kernel_rfl) (fun _ _ _ h => h) (Or.inl ⟨by rfl, ?_⟩) (by assumption) ?_
        rotate_left
        · intro w hSw; (try dsimp only at hSw); go_simp; try with_reducible rfl
        try simp only [Act.put, List.setIfInBounds_toArray, List.set_cons_zero, List.set_cons_succ]
        refine wpAnyH_take (i := 8) (v := ?_) rfl (by kernel_rfl) (by kernel_rfl) (by kernel_rfl) (fun _ _ _ h => h) (Or.inl ⟨by rfl, ?_⟩) (by assumption) ?_
        rotate_left
        · intro w hSw; (try dsimp only at hSw); go_simp; try with_reducible rfl
        try simp only [Act.put, List.setIfInBounds_toArray, List.set_cons_zero, List.set_cons_succ]
        refine wpAnyH_take (i := 9) (v := ?_) rfl (by kernel_rfl) (by kernel_rfl) (by kernel_rfl) (fun _ _ _ h => h) (Or.inl ⟨by rfl, ?_⟩) (by assumption) ?_
        rotate_left
        · intro w hSw; (try dsimp only at hSw); go_simp; try with_reducible rfl
        try simp only [Act.put, List.setIfInBounds_toArray, List.set_cons_zero, List.set_cons_succ]
        refine wpAnyH_take (i := 10) (v := ?_) rfl (by kernel_rfl) (by kernel_rfl) (by kernel_rfl) (fun _ _ _ h => h) (Or.inl ⟨by rfl, ?_⟩) (by assumption) ?_
        rotate_left
        · intro w hSw; (try dsimp only at hSw); go_simp; try with_reducible rfl
        try simp only [Act.put, List.setIfInBounds_toArray, List.set_cons_zero, List.set_cons_succ]
        refine wpAnyH_take (i := 11) (v := ?_) rfl (by kernel_rfl) (by kernel_rfl) (by kernel_rfl) (fun _ _ _ h => h) (Or.inl ⟨by rfl, ?_⟩) (by assumption) ?_
        rotate_left
        · intro w hSw; (try dsimp only at hSw); go_simp; try with_reducible rfl
        try simp only [Act.put, List.setIfInBounds_toArray, List.set_cons_zero, List.set_cons_succ]
        refine wpAnyH_take (i := 12) (v := ?_) rfl (by kernel_rfl) (by kernel_rfl) (by kernel_rfl) (fun _ _ _ h => h) (Or.inl ⟨by rfl, ?_⟩) (by assumption) ?_
        rotate_left
        · intro w hSw; (try dsimp only at hSw); go_simp; try with_reducible rfl
        try simp only [Act.put, List.setIfInBounds_toArray, List.set_cons_zero, List.set_cons_succ]
        refine wpAnyH_take (i := 14) (v := ?_) rfl (by kernel_rfl) (by kernel_rfl) (by kernel_rfl) (fun _ _ _ h => h) (Or.inl ⟨by rfl, ?_⟩) (by assumption) ?_
        rotate_left
        · intro w hSw; (try dsimp only at hSw); go_simp; try with_reducible rfl
        try simp only [Act.put, List.setIfInBounds_toArray, List.set_cons_zero, List.set_cons_succ]
        refine wpAnyH_take (i := 15) (v := ?_) rfl (by kernel_rfl) (by kernel_rfl) (by kernel_rfl) (fun _ _ _ h => h) (Or.inl ⟨by rfl, ?_⟩) (by assumption) ?_
        rotate_left
        · intro w hSw; (try dsimp only at hSw); go_simp; try with_reducible rfl
        try simp only [Act.put, List.setIfInBounds_toArray, List.set_cons_zero, List.set_cons_succ]
        refine wpAnyH_take (i := 16) (v := ?_) rfl (by kernel_rfl) (by kernel_rfl) (by kernel_rfl) (fun _ _ _ h => h) (Or.inl ⟨by rfl, ?_⟩) (by assumption) ?_
        rotate_left
        · intro w hSw; (try dsimp only at hSw); go_simp; try with_reducible rfl
        try simp only [Act.put, List.setIfInBounds_toArray, List.set_cons_zero, List.set_cons_succ]
        refine wpAnyH_ready (rs := [13]) (by kernel_rfl) (by simp) ?_
        refine AllReadyH.cons rfl (fun K hK => ?_) AllReadyH.nil
        go_simp
        refine hK.out _ _ ?_ (fun hHeld => ?_)
        · exact svd
        clear hK K
        try simp only [Act.put, List.setIfInBounds_toArray, List.set_cons_zero, List.set_cons_succ]
        refine wpAnyH_ready (rs := [17]) (by kernel_rfl) (by simp) ?_
        refine AllReadyH.cons rfl (fun K hK => ?_) AllReadyH.nil
        go_simp
        go_at_call 38
        refine T'.out.mono ?_
        rintro e w1 ⟨g1, c2, rfl, g2, b2⟩
        have hc1 := hid (HCV.out.drew.below b2)
        obtain ⟨_, _, _, x1, -, -, f1⟩ := CrL.cell' HSL.out hc1.out H4K.out n (by rw [HLK.out]; exact q4)
        have s1 := keep3 svd b2
        have s2 := keep3s (p := gs) (n := n) s1 HGD.out HGZ.out
        have G2 := hid g2
        clear g2
        try go_wp2_with fail
        refine hK.out _ _ ?_ (fun hHeld => ?_)
        · exact s1
        clear hK K
        try simp only [Act.put, List.setIfInBounds_toArray, List.set_cons_zero, List.set_cons_succ]
        refine wpAnyH_take (i := 18) (v := ?_) rfl (by kernel_rfl) (by kernel_rfl) (by kernel_rfl) (fun _ _ _ h => h) (Or.inl ⟨by rfl, ?_⟩) (by assumption) ?_
        rotate_left
        · intro w hSw; (try dsimp only at hSw); go_simp; try with_reducible rfl
        try simp only [Act.put, List.setIfInBounds_toArray, List.set_cons_zero, List.set_cons_succ]
        refine wpAnyH_ready (rs := [19]) (by kernel_rfl) (by simp) ?_
        refine AllReadyH.cons rfl (fun K hK => ?_) AllReadyH.nil
        go_simp
        refine hK.out _ _ ?_ (fun hHeld => ?_)
        · first | exact s2 _ | exact s1
        clear hK K
        try simp only [Act.put, List.setIfInBounds_toArray, List.set_cons_zero, List.set_cons_succ]
        refine wpAnyH_done (by kernel_rfl) ?_ _
        all_goals
          go_wp2_with fail
          have du := Dat.own (Q := Qp Q w) G2.out (Or.inr (Nat.le_trans HCR.out.kpt.size (Nat.le_trans BV.out.size G2.out.lt.1)))
          rw [tornB_length] at du
          have st := hc1.out.store' HSL.out HLK.out n du
          have ee := crS_at (d := d) (ks := ks) (s := s) HAT.out
          rw [Q3.out] at ee
          rw [← ee] at st
          exact ⟨⟨k + 1, by omega, by go_num, by first | exact st | exact st.drew⟩, by simp [intOf]; omega⟩
      · have hd : ((k : Int) == at_) = false := by simp [hat]
        have HAT := hid hat
        clear hat
        by_cases hkk : k < ks.length
        · obtain ⟨x, o, rfl, k1, k2⟩ := HK.out k hkk
          have kc := HCR.out.kpt.cell k1 k2
          have kca := fun oo => cell_below ((Below.refl wr.heap.size wr).alloc (Nat.le_refl _) oo) kc
          have hd2 : decide ((k : Int) < (ks.length : Int)) = true := decide_eq_true (by omega)
          clear k1 k2
          rcases hkb : ks.getD k false
          · rw [hkb] at kc kca
            have HKB := hid hkb
            clear hkb
            go_wp2_with fail
            refine ⟨⟨k + 1, by omega, by go_num, ?_⟩, by simp [intOf]; omega⟩
            rw [crS_drop HAT.out HKB.out, ← HV.out]
            exact HCV.out
          · rw [hkb] at kc kca
            have HKB := hid hkb
            clear hkb
            go_wp2_with fail
            rw [← HV.out]
            have s2 := keep3s (p := gs) (n := n) svd HGD.out HGZ.out
            have fvd : v.drew.frozen? ⟨gs, n, none⟩ = false := fv
            have xvd : v.drew.cell? ⟨gs, n, none⟩ = some (.slice (some ⟨b0, o0, none⟩) 4096 c1) := xv
            have s2d := fun u => (show (v.setCell ⟨gs, n, none⟩ u).drew.cell? ⟨D, 0, none⟩ = some (.slice (some ⟨gs, 0, none⟩) SL cs) ∧ (v.setCell ⟨gs, n, none⟩ u).drew.cell? ⟨wr.heap.size, 0, none⟩ = some (.int .i64 (n : Int)) ∧ (v.setCell ⟨gs, n, none⟩ u).drew.cell? ⟨wr.heap.size, 1, none⟩ = some (.slice (some ⟨b, off, none⟩) 4096 cc) from keep3s (p := gs) (n := n) sv HGD.out HGZ.out u)
            clear hv
            go_region_held3 (fun W => W.cell? ⟨D, 0, none⟩ = some (.slice (some ⟨gs, 0, none⟩) SL cs) ∧ W.cell? ⟨wr.heap.size, 0, none⟩ = some (.int .i64 (n : Int)) ∧ W.cell? ⟨wr.heap.size, 1, none⟩ = some (.slice (some ⟨b, off, none⟩) 4096 cc))
              (first | (with_reducible exact s2d _) | (with_reducible exact s2 _) | (with_reducible exact svd) | (with_reducible exact sv))
              (first | fail)
            all_goals
              go_wp2_with fail
              have st := HCV.out.store' HSL.out HLK.out n Q6.out
              have ee := crS_keep (d := d) (ks := ks) (s := s) HAT.out HKB.out
              rw [Q3.out] at ee
              rw [← ee] at st
              exact ⟨⟨k + 1, by omega, by go_num, by first | exact st | exact st.drew⟩, by simp [intOf]; omega⟩
        · have hd2 : decide ((k : Int) < (ks.length : Int)) = false := decide_eq_false (by omega)
          have hkb : ks.getD k false = false := by rw [List.getD_eq_getElem?_getD, List.getElem?_eq_none (by omega)]; rfl
          have HKB := hid hkb
          clear hkb
          go_wp2_with fail
          refine ⟨⟨k + 1, by omega, by go_num, ?_⟩, by simp [intOf]; omega⟩
          rw [crS_drop HAT.out HKB.out, ← HV.out]
          exact HCV.out
    · obtain rfl : k = M := by omega
      obtain ⟨ys, gs', cs', t1, t2, t3⟩ := hcr.prt.s
      simp only [Value.slice.injEq, Option.some.injEq, Addr.mk.injEq, and_true, true_and] at t1 t2 t3
      obtain ⟨rfl, t1e, rfl⟩ := t1
      rw [← t1e] at t2
      obtain ⟨y0, -⟩ := nine hcr.row
      have C := fun w hr => CloneL_any w gs 0 cs SL ys (by rw [Nat.mul_one]; have := t2.1; omega) (by omega) hr (one_dats t3)
      have hrd := RdV.own t2
      have HCR := hid hcr; have T3 := hid t3; have T1 := hid t1e
      clear hcr t1e t2 t3
      go_wp2_with fail
      refine (C _ hrd).mono ?_
      rintro e w2 ⟨A2, c2', rfl, g2, b2⟩
      obtain ⟨gd, c2'', hx, hgd1, hgd2⟩ := own_slice' g2 hpos (by decide)
      simp only [Value.slice.injEq, true_and] at hx
      obtain ⟨rfl, rfl⟩ := hx
      have hc2 := HCR.out.below b2
      have hr5 := hc2.row
      obtain ⟨-, e1, e2, -, e4, e5, e6, e7, e8⟩ := nine hr5
      have f1 := frow hr5 1
      have f2 := frow hr5 2
      have f4 := frow hr5 4
      have f5 := frow hr5 5
      have f6 := frow hr5 6
      have f7 := frow hr5 7
      have f8 := frow hr5 8
      have TT : Turn (Qp Q w) base w D S (crW w2 D (.slice (some ⟨gd, 0, none⟩) SL c2')) { safe := d.crS ks at_ s k, now := d.crS ks at_ s k, wn := [], wd := [], count := d.count, down := false, aon := false, aleft := 0, fon := false, fleft := 0 } := by
        have e := HSL.out
        subst e
        exact crash_mem HCR.out.kpt b2 HSZ.out HS0.out hin.out hD T1.out.symm hr5 hc2.prt g2 (T3.out.below b2) HC.out
      have HT := hid TT
      clear TT hr5 hc2 g2 b2 hrd C
      go_wp2_with fail
      go_ret
      exact ⟨rfl, HT.out⟩
end Go.Proofs.Ytddejjmebokgiaa
