/- The document's disk: Write. -/
import Derived.Test.YtddejjmebokgiaaRfE
namespace Go.Proofs.Ytddejjmebokgiaa
open Go.RowKit
variable {Q : Nat → Prop}
set_option maxHeartbeats 3200000
set_option maxRecDepth 100000
set_option linter.unusedVariables false
set_option linter.unusedSimpArgs false

theorem info_Im : (Try.prog.info? 67).map (fun i => (i.zero, i.size, i.bytes)) = some (some (.agg #[.int .i64 0, .slice none 0 0]), 2, 32) := by kernel_rfl
theorem fit_put {d : Dk} (h : d.fit) {n : Nat} {b : List UInt8} (hn : n < d.now.length) (hb : b.length = 4096) (hw : d.wn.length < 1000000) : (d.put n b).fit := by
  refine ⟨h.ok.put hn hb hw, ?_, h.arm, h.flt⟩
  intro k hk
  have hk' : k < d.now.length := by simpa [Dk.put] using hk
  have hok := h.ok.put hn hb hw
  have e : (d.put n b).wn.length = d.wn.length + 1 := by simp [Dk.put]
  have e0 : sncT (d.put n b) d.wn.length k = sncT d d.wn.length k := by
    unfold sncT
    have z : (d.put n b).wn.zip (d.put n b).wd = d.wn.zip d.wd ++ [(n, b)] := by
      simp only [Dk.put]
      rw [List.zip_append h.ok.wlen]
      rfl
    have zl : (d.wn.zip d.wd).length = d.wn.length := by rw [List.length_zip, ← h.ok.wlen]; exact Nat.min_self _
    rw [z, List.take_append_of_le_length (by rw [zl]; exact Nat.le_refl _)]
    rfl
  have e1 : (d.put n b).wn.getD d.wn.length 0 = n := by simp [Dk.put]
  have e2 : (d.put n b).wd.getD d.wn.length [] = b := by rw [h.ok.wlen]; simp [Dk.put]
  rw [e, sncT_succ hok.wlen (by rw [e]; omega), e0, e1, e2]
  show (d.now.set n b).getD k [] = _
  rw [getD_set _ _ _ _ _ hn]
  by_cases hkn : k = n
  · rw [if_pos hkn, if_pos hkn]
    simp
  · rw [if_neg hkn, if_neg hkn]
    exact h.last k hk'
theorem RWrite_is (w : World) {F : Nat → Prop} {v : Value} {d : Dk} (h : IsRf Q w F v d) (hf : d.fit) (hw : d.wn.length < 1000000) (n : Int) (a : Option Addr) (cb N : Nat) (b : List UInt8) (hN : N = b.length) (hbl : b.length ≤ 100000) (hr : RdB w a b) :
    Calls Try.prog 51 #[v, .int .i64 n, .slice a N cb] w fun e w' => ∃ v' F', e = .returned (.tuple #[v', .int .i64 (d.wrE n b)]) ∧ IsRf (Qp Q w) w' F' v' (d.wrD n b) ∧ (∀ b, F' b → F b ∨ w.heap.size ≤ b) ∧ Below w.heap.size w w' := by
  have OP := fun (W : World) (h : IsRf Q W F v d) => op_is W h hf
  have CB := fun (W : World) (hr : RdB W a b) => CopyBytes_any W a cb N b hN (by omega) hr
  obtain ⟨e1, e2, e3, e4, e5⟩ := stopD_same d
  have hl := hf.ok.len
  obtain ⟨x, hx⟩ : ∃ x, x = d.stopD := ⟨_, rfl⟩
  obtain ⟨E, hE⟩ : ∃ E, E = d.stopE := ⟨_, rfl⟩
  have hyE : d.wrE n b = if n < 0 ∨ (d.safe.length : Int) ≤ n then 70 else if b.length ≠ 4096 then 2 else E := by
    simp only [Dk.wrE, Dk.wrong, hl, ← hE]
    by_cases h1 : n < 0 ∨ (d.now.length : Int) ≤ n <;> simp [h1]
  have hyD : d.wrD n b = if n < 0 ∨ (d.safe.length : Int) ≤ n then d else if b.length ≠ 4096 then d else if E ≠ 0 then x else x.put n.toNat b := by
    simp only [Dk.wrD, Dk.wrong, hl, ← hE, ← hx]
    by_cases h1 : n < 0 ∨ (d.now.length : Int) ≤ n <;> simp [h1]
  simp only [← hx, ← hE] at OP e1 e2 e3 e4 e5
  obtain ⟨yE, hyE'⟩ : ∃ y, y = d.wrE n b := ⟨_, rfl⟩
  obtain ⟨y, hyD'⟩ : ∃ y, y = d.wrD n b := ⟨_, rfl⟩
  rw [← hyE', ← hyD']
  rw [← hyE'] at hyE
  rw [← hyD'] at hyD
  have HYE := hid hyE; have HYD := hid hyD
  have H := hid h
  obtain ⟨gs, cs, A, c, xs, ys, e, hF, h1, h2, h3, h4, h5⟩ := h
  have hwl : (wcells d.wn ys).length = d.wn.length * 2 := wcells_length _ _ (by rw [h4.1, hf.ok.wlen])
  have hone : ∀ u ∈ wcells d.wn ys, u.oneCell' = true := one_wcells _ _ (one_dats h4)
  have hsn := fun (m : Nat) (u : Value) => wcells_snoc d.wn ys m u (by rw [h4.1, hf.ok.wlen])
  subst e
  have hxx := fun (v' : Value) (h : ∀ vs vw, rfA (.slice (some ⟨gs, 0, none⟩) d.safe.length cs) (.slice A d.wn.length c) d = rfA vs vw d → v' = rfA vs vw x) => h _ _ rfl
  have HF := hid hF; have H5 := hid h5
  clear hyE hyD hyE' hyD' hE hx e2 hF h5 hf
  have HXX := hid hxx; have HSN := hid hsn; have HONE := hid hone; have HWL := hid hwl; have E1 := hid e1; have E3 := hid e3; have E4 := hid e4; have E5 := hid e5; have HNb := hid hN; have HL := hid hl
  clear hxx hsn hone hwl e1 e3 e4 e5 hN hl
  unfold rfA at *
  generalize hNN : d.safe.length = M at *
  generalize hKK : d.wn.length = K at *
  have HKK := hid hKK; have HNN := hid hNN
  clear hNN hKK
  have hbw : Below w.heap.size w ((w.alloc (.cells #[.slice (some ⟨gs, 0, none⟩) M cs, .slice A K c, .int .i64 d.count, .bool d.down, .int .i64 d.am, .int .i64 d.fm] 59)).alloc (.cells #[.slice none 0 0, .slice none 0 0, .int .i64 0, .bool false, .int .i64 0, .int .i64 0] 59)) := ((Below.refl _ _).alloc (Nat.le_refl _) _).alloc (by simp) _
  obtain ⟨w1, hw1⟩ : ∃ w1, w1 = (w.alloc (.cells #[.slice (some ⟨gs, 0, none⟩) M cs, .slice A K c, .int .i64 d.count, .bool d.down, .int .i64 d.am, .int .i64 d.fm] 59)).alloc (.cells #[.slice none 0 0, .slice none 0 0, .int .i64 0, .bool false, .int .i64 0, .int .i64 0] 59) := ⟨_, rfl⟩
  have hsz : w1.heap.size = w.heap.size + 2 := by rw [hw1]; simp
  have row1 : w1.heap[w.heap.size + 1]? = some (.cells #[.slice none 0 0, .slice none 0 0, .int .i64 0, .bool false, .int .i64 0, .int .i64 0] 59 (0, 0)) := by rw [hw1]; exact row_two _ _ _
  have row0 : w1.heap[w.heap.size]? = some (.cells #[.slice (some ⟨gs, 0, none⟩) M cs, .slice A K c, .int .i64 d.count, .bool d.down, .int .i64 d.am, .int .i64 d.fm] 59 (0, 0)) := by rw [hw1]; exact (Below.heap_alloc _ _ _ (by simp)).trans (heap_alloc_new w _)
  rw [← hw1] at hbw
  have HW1 := hid hw1; have HSZ := hid hsz
  clear hw1 hsz
  -- the answer lies in the cell w.heap.size + 1
  have FIN : ∀ (W : World) (A7 : Option Addr) (K7 c7 : Nat) (ct : Int) (dn : Bool) (am fm er : Int), W.heap[w.heap.size + 1]? = some (.cells #[.slice none 0 0, .slice none 0 0, .int .i64 0, .bool false, .int .i64 0, .int .i64 0] 59 (0, 0)) → True := fun _ _ _ _ _ _ _ _ _ _ => trivial
  clear FIN
  by_cases c1 : n < 0 ∨ (M : Int) ≤ n
  · have yE0 : yE = 70 := by rw [HYE.out, if_pos c1]
    have y0 : y = d := by rw [HYD.out, if_pos c1]
    have y0 := y0.symm
    subst yE0 y0
    clear OP CB HYE HYD HXX HSN HONE HWL hbw row0 row1 h1 h2
    by_cases c2 : n < 0
    · have d1 : decide (n < 0) = true := decide_eq_true c2
      clear c1
      go_enter Try.func51, Try.ntmps51
      go_wp2
      refine bodyPost_ret (v := .tuple #[.agg #[.slice (some ⟨gs, 0, none⟩) M cs, .slice A K c, .int .i64 d.count, .bool d.down, .int .i64 d.am, .int .i64 d.fm], .int .i64 70]) (by simp [results, Try.results51, go_sem]) rfl ?_
      refine (fun bz => ⟨_, rfl, F, (H.out.monoQ (fun b hb => Or.inl hb)).below bz, fun b hb => Or.inl hb, bz⟩) ?_
      repeat' (first | (with_reducible refine Below.setCell ?_ (by simp) _) | (with_reducible refine drewN_below2 ?_ _) | (with_reducible refine Below.alloc ?_ (by simp) _) | (with_reducible exact Below.refl _ _))
    · have c3 : (M : Int) ≤ n := by omega
      clear c1
      go_enter Try.func51, Try.ntmps51
      go_wp2
      refine bodyPost_ret (v := .tuple #[.agg #[.slice (some ⟨gs, 0, none⟩) M cs, .slice A K c, .int .i64 d.count, .bool d.down, .int .i64 d.am, .int .i64 d.fm], .int .i64 70]) (by simp [results, Try.results51, go_sem]) rfl ?_
      refine (fun bz => ⟨_, rfl, F, (H.out.monoQ (fun b hb => Or.inl hb)).below bz, fun b hb => Or.inl hb, bz⟩) ?_
      repeat' (first | (with_reducible refine Below.setCell ?_ (by simp) _) | (with_reducible refine drewN_below2 ?_ _) | (with_reducible refine Below.alloc ?_ (by simp) _) | (with_reducible exact Below.refl _ _))
  · have c1' : 0 ≤ n ∧ n < (M : Int) := by omega
    obtain ⟨k, rfl⟩ : ∃ k : Nat, n = k := ⟨n.toNat, by omega⟩
    have hkM : k < M := by omega
    have HYE' := HYE.out
    have HYD' := HYD.out
    rw [if_neg c1] at HYE' HYD'
    have d1 : decide ((k : Int) < 0) = false := decide_eq_false (by omega)
    have d2 : decide ((M : Int) ≤ (k : Int)) = false := decide_eq_false (by omega)
    clear HYE HYD c1 c1'
    by_cases c2 : b.length ≠ 4096
    · rw [if_pos c2] at HYE' HYD'
      have HYD' := HYD'.symm
      subst HYE' HYD'
      have c3 : ((N : Int) != 4096) = true := by rw [bne_iff_ne]; have := HNb.out; omega
      have c4 : N ≠ 4096 := by have := HNb.out; omega
      clear OP CB HXX HSN HONE HWL hbw row0 row1 h1 h2
      go_enter Try.func51, Try.ntmps51
      go_wp2
      refine bodyPost_ret (v := .tuple #[.agg #[.slice (some ⟨gs, 0, none⟩) M cs, .slice A K c, .int .i64 d.count, .bool d.down, .int .i64 d.am, .int .i64 d.fm], .int .i64 2]) (by simp [results, Try.results51, go_sem]) rfl ?_
      refine (fun bz => ⟨_, rfl, F, (H.out.monoQ (fun b hb => Or.inl hb)).below bz, fun b hb => Or.inl hb, bz⟩) ?_
      repeat' (first | (with_reducible refine Below.setCell ?_ (by simp) _) | (with_reducible refine drewN_below2 ?_ _) | (with_reducible refine Below.alloc ?_ (by simp) _) | (with_reducible exact Below.refl _ _))
    · have hb4 : b.length = 4096 := by omega
      rw [if_neg c2] at HYE' HYD'
      have hN4 := HNb.out
      rw [hb4] at hN4
      subst hN4
      have HYE := hid HYE'; have HYD := hid HYD'; have HB4 := hid hb4
      clear HYE' HYD' c2 hb4 HNb
      go_enter Try.func51, Try.ntmps51
      go_wp2_with fail
      rw [← HW1.out]
      refine (OP _ (H.out.below hbw)).mono ?_
      rintro e w2 ⟨v', rfl, hv', b2, hxv⟩
      obtain rfl := HXX.out v' hxv
      clear hxv HXX OP
      have r0 := (b2.block _ (heap_in row0)).trans row0
      have r1 := (b2.block _ (heap_in row1)).trans row1
      have bb2 := hbw.trans (b2.mono hbw.size)
      have hs2 := b2.size
      obtain ⟨w3, hw3⟩ : ∃ w3, w3 = w2.alloc (.cells #[.slice (some ⟨gs, 0, none⟩) M cs, .slice A K c, .int .i64 x.count, .bool x.down, .int .i64 x.am, .int .i64 x.fm] 59) := ⟨_, rfl⟩
      have b3 : Below w2.heap.size w2 w3 := by rw [hw3]; exact (Below.refl _ _).alloc (Nat.le_refl _) _
      have r30 := (b3.block _ (heap_in r0)).trans r0
      have r31 := (b3.block _ (heap_in r1)).trans r1
      have r34 : w3.heap[w2.heap.size]? = some (.cells #[.slice (some ⟨gs, 0, none⟩) M cs, .slice A K c, .int .i64 x.count, .bool x.down, .int .i64 x.am, .int .i64 x.fm] 59 (0, 0)) := by rw [hw3]; exact heap_alloc_new w2 _
      have bb3 := bb2.trans (b3.mono bb2.size)
      have hs3 : w3.heap.size = w2.heap.size + 1 := by rw [hw3]; simp
      have HW3 := hid hw3; have HS3 := hid hs3
      clear hs3 r0 r1
      by_cases hE : E = 0
      · subst hE
        have hyx : y = x.put k b := by rw [HYD.out]; simp
        have hye : yE = 0 := HYE.out
        subst hyx hye
        clear HYE HYD
        clear hw3
        have hvx := hid (hv'.below b3)
        obtain ⟨p0, p1, p2, p3, p4, p5⟩ := six r30
        have p1' := p1
        rw [HW3.out] at p1'
        have h2' := h2.below bb3
        rw [HW3.out] at h2'
        have b33 : Below w3.heap.size w3 (w2.alloc (.cells #[.slice (some ⟨gs, 0, none⟩) M cs, .slice A K c, .int .i64 x.count, .bool x.down, .int .i64 x.am, .int .i64 x.fm] 59)) := by rw [← HW3.out]; exact Below.refl _ _
        clear hv' b2 b3
        go_wp2_with (at_builtin; refine app_own rfl (.tmp 34) (.tmp 36) 57 67 (.agg #[.int .i64 0, .slice none 0 0]) 2 32 rfl Try.underlying57 info_Im rfl (by decide) (by decide) w3.heap.size (.slice none 0 0) 0 [] rfl ⟨rfl, .inl ⟨rfl, rfl⟩⟩ A K c (wcells d.wn ys) rfl HWL.out h2' HONE.out (by omega) w3 b33 b33.size ?_; intro A4 c4 w4 h4' b4 _ _)
        simp only [Nat.zero_add, List.nil_append] at h4'
        have bw4 := bb3.trans (b4.mono bb3.size)
        refine (CB _ (hr.below bw4)).mono ?_
        rintro e w5 ⟨A5, c5, rfl, o5, b5⟩
        have bw5 := bw4.trans (b5.mono bw4.size)
        have b35 := b4.trans (b5.mono b4.size)
        have ba : Below w5.heap.size w5 (w5.alloc (.cells #[.int .i64 (k : Int), .slice A5 4096 c5] 67)) := (Below.refl _ _).alloc (Nat.le_refl _) _
        have b3a := b35.trans (ba.mono b35.size)
        have h4a := own_below (own_below h4' b5) ba
        clear p0 p1 p2 p3 p4 p5 h4' CB
        have R31 := hid r31; have R34 := hid r34
        clear r31 r34 r30 row0 row1
        have n24 : w2.heap.size ≠ w.heap.size + 1 := by have := HSZ.out; omega
        have N24 := hid n24
        clear n24
        go_wp2_with (at_builtin; refine app_own rfl (.tmp 38) (.tmp 43) 57 67 (.agg #[.int .i64 0, .slice none 0 0]) 2 32 rfl Try.underlying57 info_Im rfl (by decide) (by decide) w3.heap.size (.slice A4 K c4) K (wcells d.wn ys) rfl h4a (some ⟨w5.heap.size, 0, none⟩) 1 1 [.int .i64 (k : Int), .slice A5 4096 c5] rfl rfl (RdV.new w5 _ _) (by simp [Value.oneCell']) (by omega) w3 b3a b3a.size ?_; intro A7 c7 w7 h7 b7 h8 _; have r77 := (b7.block _ (heap_in R34.out)).trans R34.out; have r71 := (b7.block _ (heap_in R31.out)).trans R31.out; have r77a := heap_setCell_same w7 w2.heap.size 1 _ _ (.slice A7 (K + 1) c7) r77; have r77b := heap_setCell_same _ w2.heap.size 2 _ _ (.int .i64 (wrap64 (x.count + 1))) r77a; have r71a := (heap_setCell_other w7 ⟨w2.heap.size, 1, none⟩ (w.heap.size + 1) (.slice A7 (K + 1) c7) (fun e => N24.out e.symm)).trans r71; have r71b := (heap_setCell_other (w7.setCell ⟨w2.heap.size, 1, none⟩ (.slice A7 (K + 1) c7)) ⟨w2.heap.size, 2, none⟩ (w.heap.size + 1) (.int .i64 (wrap64 (x.count + 1))) (fun e => N24.out e.symm)).trans r71a; have g1 := frow r77 1; have ga2 := frow r77a 2; have m1 := (six r77).2.1; have ma2 := (six r77a).2.2.1; obtain ⟨x0, x1, x2, x3, x4, x5⟩ := six r77b; obtain ⟨q0, q1, q2, q3, q4, q5⟩ := six r71b; have f0 := frow r71b 0; have f1 := frow r71b 1; have f2 := frow r71b 2; have f3 := frow r71b 3; have f4 := frow r71b 4; have f5 := frow r71b 5; have HR1B := hid r71b; have HR4 := hid r77; have H7 := hid h7; have H8 := hid h8; have B7 := hid b7; clear r77 r71 r77a r77b r71a r71b h7 h8 b7)
        obtain ⟨ub, hub⟩ : ∃ ub, ub = (w7.setCell ⟨w2.heap.size, 1, none⟩ (.slice A7 (K + 1) c7)).setCell ⟨w2.heap.size, 2, none⟩ (.int .i64 (wrap64 (x.count + 1))) := ⟨_, rfl⟩
        have kb : Kpt (fun b => b = w2.heap.size) w7 ub := by rw [hub]; exact (kpt_one _).trans (kpt_one _)
        have hr1c : ub.heap[w.heap.size + 1]? = some (.cells #[.slice none 0 0, .slice none 0 0, .int .i64 0, .bool false, .int .i64 0, .int .i64 0] 59 (0, 0)) := by rw [hub]; exact HR1B.out
        have HR1C := hid hr1c
        clear hr1c
        rw [← hub]
        obtain ⟨uf, huf⟩ : ∃ uf, uf = ((((((ub.setCell ⟨w.heap.size + 1, 0, none⟩ (.slice (some ⟨gs, 0, none⟩) M cs)).setCell ⟨w.heap.size + 1, 1, none⟩ (.slice A7 (K + 1) c7)).setCell ⟨w.heap.size + 1, 2, none⟩ (.int .i64 (wrap64 (x.count + 1)))).setCell ⟨w.heap.size + 1, 3, none⟩ (.bool x.down)).setCell ⟨w.heap.size + 1, 4, none⟩ (.int .i64 x.am)).setCell ⟨w.heap.size + 1, 5, none⟩ (.int .i64 x.fm)) := ⟨_, rfl⟩
        have hrf : uf.heap[w.heap.size + 1]? = some (.cells #[.slice (some ⟨gs, 0, none⟩) M cs, .slice A7 (K + 1) c7, .int .i64 (wrap64 (x.count + 1)), .bool x.down, .int .i64 x.am, .int .i64 x.fm] 59 (0, 0)) := by rw [huf]; exact row_set6 HR1C.out
        have kf : Kpt (fun b => b = w.heap.size + 1) ub uf := by rw [huf]; exact kpt_set6 (Kpt.refl _ _) rfl
        rw [← huf]
        clear x0 x1 x2 x3 x4 x5 q0 q1 q2 q3 q4 q5 f0 f1 f2 f3 f4 f5
        obtain ⟨z0, z1, z2, z3, z4, z5⟩ := six hrf
        obtain ⟨g7, cc7, he, hg7, hg7'⟩ := own_slice' H7.out (Nat.succ_pos _) (by decide)
        simp only [Value.slice.injEq, true_and] at he
        obtain ⟨rfl, rfl⟩ := he
        have hsz := HSZ.out
        have hs3' := HS3.out
        have B7 := B7.out
        have hs7 := B7.size
        have hob := own_kpt H7.out kb (fun b hb e => by have := (own_row H7.out hb).1; omega)
        have hof := own_kpt hob kf (fun b hb e => by have := (own_row H7.out hb).1; omega)
        have hbw1 : Below w.heap.size w w7 := bb3.trans (B7.mono bb3.size)
        have hbw2 := kpt_below' hbw1 kb hbw1.size (fun k hk hs => by omega)
        have hbw3 := kpt_below' hbw2 kf hbw2.size (fun k hk hs => by omega)
        have hb2u : ∀ b, b = w2.heap.size → ¬ U8 w7 b := fun b e => by rw [e]; exact row_not_u8 HR4.out (by decide)
        have hb1u : ∀ b, b = w.heap.size + 1 → ¬ U8 ub b := fun b e => by rw [e]; exact row_not_u8 HR1C.out (by decide)
        have h1f := ((h1.below hbw1 |> fun h => rdv_kpt h kb (fun b o e => by cases e; have := (H5.out gs ((HF.out gs).2 (.inl rfl))).1; omega)) |> fun h => rdv_kpt h kf (fun b o e => by cases e; have := (H5.out gs ((HF.out gs).2 (.inl rfl))).1; omega))
        have h3f := ((h3.below hbw1).kpt kb hb2u).kpt kf hb1u
        have h4f := ((h4.below hbw1).kpt kb hb2u).kpt kf hb1u
        obtain ⟨g5, rfl, hg5, hg5'⟩ := own_adr o5 (by intro e; have := HB4.out; rw [e] at this; simp at this)
        have hdn : Dat (Qp Q w) w5 (.slice (some ⟨g5, 0, none⟩) 4096 c5) b := by
          have := Dat.own (Q := Qp Q w) o5 (.inr (by have := bw4.size; omega))
          rw [HB4.out] at this
          exact this
        have k7 : Kpt (fun b => (Value.slice A4 K c4).ownBlock = some b) (w5.alloc (.cells #[.int .i64 (k : Int), .slice (some ⟨g5, 0, none⟩) 4096 c5] 67)) w7 := .of_grown H8.out (fun b hb => hb)
        have hdn7 := (hdn.below ba).kpt k7 (fun b hb => by obtain ⟨_, _, cc, hr⟩ := own_row h4a hb; exact row_not_u8 hr (by decide))
        have hdnf := (hdn7.kpt kb hb2u).kpt kf hb1u
        have hok := hdnf
        refine bodyPost_ret (v := .tuple #[.agg #[.slice (some ⟨gs, 0, none⟩) M cs, .slice (some ⟨g7, 0, none⟩) (K + 1) c7, .int .i64 (wrap64 (x.count + 1)), .bool x.down, .int .i64 x.am, .int .i64 x.fm], .int .i64 0]) (by simp [results, Try.results51, go_sem, z0, z1, z2, z3, z4, z5]) rfl ⟨_, fun b => b = gs ∨ b = g7, rfl, ⟨gs, cs, some ⟨g7, 0, none⟩, c7, xs, ys ++ [.slice (some ⟨g5, 0, none⟩) 4096 c5], ?_, fun b => ?_, h1f, ?_, ?_, ?_, ?_⟩, ?_, hbw3⟩
        · have t1 : (x.put k b).safe = d.safe := E1.out
          have t2 : (x.put k b).wn.length = K + 1 := by show (x.wn ++ [k]).length = _; rw [List.length_append, E3.out, HKK.out]; rfl
          rw [t1, t2, HNN.out]; rfl
        · simp
          exact ⟨fun h => h.imp id Eq.symm, fun h => h.imp id Eq.symm⟩
        · have t3 : (x.put k b).wn = d.wn ++ [k] := by show x.wn ++ [k] = _; rw [E3.out]
          rw [t3, HSN.out]
          exact RdV.own hof
        · have t1 : (x.put k b).safe = d.safe := E1.out
          rw [t1]
          exact h3f.monoQ (fun b hb => .inl hb)
        · have t4 : (x.put k b).wd = d.wd ++ [b] := by show x.wd ++ [b] = _; rw [E4.out]
          rw [t4]
          exact (h4f.monoQ (fun b hb => .inl hb)).snoc hdnf
        · rintro b (rfl | rfl)
          · obtain ⟨t1, t2⟩ := H5.out b ((HF.out b).2 (.inl rfl))
            refine ⟨Nat.lt_of_lt_of_le t1 hbw3.size, ?_⟩
            rintro ⟨q, hq⟩
            rw [hbw3.block b t1] at hq
            exact t2 ⟨q, hq⟩
          · obtain ⟨_, t2, cc, t3⟩ := own_row hof (b := b) rfl
            exact ⟨t2, row_not_u8 t3 (by decide)⟩
        · rintro b (rfl | rfl)
          · exact .inl ((HF.out b).2 (.inl rfl))
          · have := bb3.size
            exact .inr (by omega)
      · have hyx : x = y := by rw [HYD.out, if_pos hE]
        have hye : E = yE := HYE.out.symm
        subst hyx hye
        clear HYE HYD
        obtain ⟨q0, q1, q2, q3, q4, q5⟩ := six r31
        obtain ⟨m0, m1, m2, m3, m4, m5⟩ := six r34
        have f0 := frow r31 0; have f1 := frow r31 1; have f2 := frow r31 2; have f3 := frow r31 3; have f4 := frow r31 4; have f5 := frow r31 5
        rw [hw3] at q0 q1 q2 q3 q4 q5 f0 f1 f2 f3 f4 f5 m0 m1 m2 m3 m4 m5
        clear hw3
        go_wp2_with fail
        rw [← HW3.out]
        have HR := hid r31
        obtain ⟨uf, huf⟩ : ∃ uf, uf = ((((((w3.setCell ⟨w.heap.size + 1, 0, none⟩ (.slice (some ⟨gs, 0, none⟩) M cs)).setCell ⟨w.heap.size + 1, 1, none⟩ (.slice A K c)).setCell ⟨w.heap.size + 1, 2, none⟩ (.int .i64 x.count)).setCell ⟨w.heap.size + 1, 3, none⟩ (.bool x.down)).setCell ⟨w.heap.size + 1, 4, none⟩ (.int .i64 x.am)).setCell ⟨w.heap.size + 1, 5, none⟩ (.int .i64 x.fm)) := ⟨_, rfl⟩
        have hrf : uf.heap[w.heap.size + 1]? = some (.cells #[.slice (some ⟨gs, 0, none⟩) M cs, .slice A K c, .int .i64 x.count, .bool x.down, .int .i64 x.am, .int .i64 x.fm] 59 (0, 0)) := by rw [huf]; exact row_set6 r31
        have kf : Kpt (fun b => b = w.heap.size + 1) w3 uf := by rw [huf]; exact kpt_set6 (Kpt.refl _ _) rfl
        rw [← huf]
        obtain ⟨z0, z1, z2, z3, z4, z5⟩ := six hrf
        refine bodyPost_ret (v := .tuple #[.agg #[.slice (some ⟨gs, 0, none⟩) M cs, .slice A K c, .int .i64 x.count, .bool x.down, .int .i64 x.am, .int .i64 x.fm], .int .i64 E]) (by simp [results, Try.results51, go_sem, z0, z1, z2, z3, z4, z5]) rfl ⟨_, F, rfl, ((hv'.below b3).kpt kf (fun b e => by rw [e]; exact row_not_u8 HR.out (by decide)) (fun b hb e => ?_)).monoQ (fun b hb => .inl hb), fun b hb => .inl hb, kpt_below' bb3 kf bb3.size (fun k hk hs => by omega)⟩
        have := (H5.out b hb).1
        omega
end Go.Proofs.Ytddejjmebokgiaa
