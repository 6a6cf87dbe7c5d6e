/- The document's disk: Flush. -/
import Derived.Test.YtddejjmebokgiaaRfD
namespace Go.Proofs.Ytddejjmebokgiaa
open Go.RowKit
variable {Q : Nat → Prop}
set_option maxHeartbeats 3200000
set_option maxRecDepth 100000
set_option linter.unusedVariables false
set_option linter.unusedSimpArgs false

theorem fit_flush {d : Dk} (h : d.fit) : d.flush.fit := by
  refine ⟨h.ok.flush, ?_, h.arm, h.flt⟩
  intro n hn
  have e : d.flush.wn.length = 0 := rfl
  rw [e]
  simp [sncT, Dk.flush]
theorem RFlush_is (w : World) {F : Nat → Prop} {v : Value} {d : Dk} (h : IsRf Q w F v d) (hf : d.fit) :
    Calls Try.prog 54 #[v] w fun e w' => ∃ v' F', e = .returned (.tuple #[v', .int .i64 d.stopE]) ∧ IsRf Q w' F' v' d.flD ∧ (∀ b, F' b → F b ∨ w.heap.size ≤ b) ∧ Below w.heap.size w w' := by
  have OP := fun (W : World) (h : IsRf Q W F v d) => op_is W h hf
  have AT := fun (W : World) (h : IsRf Q W F v d) (k : Nat) (hk : k < d.now.length) => At_is W h hf k hk
  obtain ⟨e1, e2, e3, e4, e5⟩ := stopD_same d
  have hl := hf.ok.len
  have hm := hf.ok.max
  have hpos := hf.ok.pos
  obtain ⟨x, hx⟩ : ∃ x, x = d.stopD := ⟨_, rfl⟩
  have hfl : d.flD = if d.stopE ≠ 0 then x else x.flush := by rw [hx]; rfl
  rw [hfl]
  simp only [← hx] at OP e1 e2 e3 e4 e5
  have H := hid h
  obtain ⟨gs, cs, A, c, e⟩ := h.two
  clear h hfl hx
  subst e
  have hxx := fun (v' : Value) (h : ∀ vs vw, rfA (.slice (some ⟨gs, 0, none⟩) d.safe.length cs) (.slice A d.wn.length c) d = rfA vs vw d → v' = rfA vs vw x) => h _ _ rfl
  obtain ⟨LN, hLN⟩ : ∃ L : List (List UInt8), L = d.now := ⟨_, rfl⟩
  have hxs : x.flush.safe = LN := by rw [hLN]; exact e2
  have hlN : LN.length = d.safe.length := by rw [hLN, hl]
  simp only [← hLN] at AT
  have hsucc : ∀ k, k < LN.length → LN.take (k + 1) = LN.take k ++ [LN.getD k []] := by
    intro k hk
    have e : LN[k]? = some (LN.getD k []) := by rw [List.getD_eq_getElem?_getD, List.getElem?_eq_getElem hk]; rfl
    rw [List.take_add_one, e]
    rfl
  rw [hlN] at AT hsucc
  have hN512 : d.safe.length ≤ 512 := by omega
  have hNpos : 0 < d.safe.length := by omega
  have hall : LN.take d.safe.length = LN := by rw [← hlN, List.take_length]
  clear hl hm hpos e1 e2 e3 e4 hLN hf
  have HS := hid hsucc; have HX := hid hxs; have HLN := hid hlN; have HALL := hid hall
  clear hsucc hxs hlN hall
  generalize d.stopE = E at *
  obtain ⟨y, hy⟩ : ∃ y, y = if E ≠ 0 then x else x.flush := ⟨_, rfl⟩
  rw [← hy]
  have HY := hid hy
  clear hy
  unfold rfA at *
  generalize hNN : d.safe.length = N at *
  generalize hKK : d.wn.length = K at *
  have HKK := hid hKK
  clear hNN hKK
  have hbw : Below w.heap.size w ((w.alloc (.cells #[.slice (some ⟨gs, 0, none⟩) N cs, .slice A K c, .int .i64 d.count, .bool d.down, .int .i64 d.am, .int .i64 d.fm] 59)).alloc (.cells #[.slice none 0 0, .slice none 0 0, .int .i64 0, .bool false, .int .i64 0, .int .i64 0] 59)) := ((Below.refl _ _).alloc (Nat.le_refl _) _).alloc (by simp) _
  obtain ⟨w1, hw1⟩ : ∃ w1, w1 = (w.alloc (.cells #[.slice (some ⟨gs, 0, none⟩) N cs, .slice A K c, .int .i64 d.count, .bool d.down, .int .i64 d.am, .int .i64 d.fm] 59)).alloc (.cells #[.slice none 0 0, .slice none 0 0, .int .i64 0, .bool false, .int .i64 0, .int .i64 0] 59) := ⟨_, rfl⟩
  have hsz : w1.heap.size = w.heap.size + 2 := by rw [hw1]; simp
  have row1 : w1.heap[w.heap.size + 1]? = some (.cells #[.slice none 0 0, .slice none 0 0, .int .i64 0, .bool false, .int .i64 0, .int .i64 0] 59 (0, 0)) := by rw [hw1]; exact row_two _ _ _
  have row0 : w1.heap[w.heap.size]? = some (.cells #[.slice (some ⟨gs, 0, none⟩) N cs, .slice A K c, .int .i64 d.count, .bool d.down, .int .i64 d.am, .int .i64 d.fm] 59 (0, 0)) := by rw [hw1]; exact (Below.heap_alloc _ _ _ (by simp)).trans (heap_alloc_new w _)
  rw [← hw1] at hbw
  have HW1 := hid hw1; have HXX := hid hxx; have HSZ := hid hsz; have E5 := hid e5
  clear hw1 hxx hsz e5
  go_enter Try.func54, Try.ntmps54
  go_wp2_with fail
  rw [← HW1.out]
  obtain ⟨a0, a1, a2, a3, a4, a5⟩ := six row0
  go_wp2_with fail
  clear a0 a1 a2 a3 a4 a5
  refine (OP _ (H.out.below hbw)).mono ?_
  rintro e w2 ⟨v', rfl, hv', b2, hxv⟩
  obtain rfl := HXX.out v' hxv
  clear hxv HXX OP
  have r0 := (b2.block _ (heap_in row0)).trans row0
  have r1 := (b2.block _ (heap_in row1)).trans row1
  have bb2 := hbw.trans (b2.mono hbw.size)
  have hs2 := b2.size
  obtain ⟨w3, hw3⟩ : ∃ w3, w3 = w2.alloc (.cells #[.slice (some ⟨gs, 0, none⟩) N cs, .slice A K c, .int .i64 x.count, .bool x.down, .int .i64 x.am, .int .i64 x.fm] 59) := ⟨_, rfl⟩
  have b3 : Below w2.heap.size w2 w3 := by rw [hw3]; exact (Below.refl _ _).alloc (Nat.le_refl _) _
  have r30 := (b3.block _ (heap_in r0)).trans r0
  have r31 := (b3.block _ (heap_in r1)).trans r1
  have r34 : w3.heap[w2.heap.size]? = some (.cells #[.slice (some ⟨gs, 0, none⟩) N cs, .slice A K c, .int .i64 x.count, .bool x.down, .int .i64 x.am, .int .i64 x.fm] 59 (0, 0)) := by rw [hw3]; exact heap_alloc_new w2 _
  have bb3 := bb2.trans (b3.mono bb2.size)
  have hs3 : w3.heap.size = w2.heap.size + 1 := by rw [hw3]; simp
  have HW3 := hid hw3; have HS3 := hid hs3
  clear hs3 r0 r1
  by_cases hE : E = 0
  · subst hE
    have hyx : y = x.flush := by rw [HY.out]; simp
    subst hyx
    clear HY
    clear hw3
    go_wp2_with fail
    rw [← HW3.out]
    have H3 := hid (H.out.below bb3)
    have Hv := hid (hv'.below b3)
    have HB3 := hid bb3
    clear hv' H b2 b3 bb2
    go_loopw [6, 7] (fun y i wr => ∃ (j c3 : Nat) (A3 : Option Addr) (xs : List Value), j ≤ N ∧ i = .int .i64 j ∧ y = .slice A3 j c3 ∧ wr.ownsRow w3.heap.size 30 1 (.slice A3 j c3) j xs ∧ Dats Q wr xs (LN.take j) ∧ Below w3.heap.size w3 wr) (fun _ i _ => N - (intOf i).toNat)
    case atStart => exact ⟨0, 0, none, [], by omega, rfl, rfl, ⟨rfl, .inl ⟨rfl, rfl⟩⟩, Dats.nil _, Below.refl _ _⟩
    case round =>
      obtain ⟨j, c3, A3, xs, hj, rfl, rfl, ho, hd, hb⟩ := hrel
      obtain ⟨u, rfl⟩ : ∃ u, u = wr := ⟨_, rfl⟩
      have ru0 := (hb.block _ (heap_in r30)).trans r30
      have hbs := hb.size
      by_cases hlt : j < N
      · obtain ⟨y0, y1, y2, y3, y4, y5⟩ := six ru0
        clear ru0
        go_wp2_with fail
        refine (AT _ (H3.out.below hb) j hlt).mono ?_
        rintro e u2 ⟨b, o, c', rfl, hdx, bu⟩
        have ho2 := own_below ho bu
        have hd2 := hd.below bu
        have hb2 := hb.trans (bu.mono hbs)
        have ba : Below u2.heap.size u2 (u2.alloc (.cells #[.slice (some ⟨b, o, none⟩) 4096 c'] 30)) := (Below.refl _ _).alloc (Nat.le_refl _) _
        have hd3 := hid ((hd2.snoc hdx).below ba)
        clear hd hd2 bu
        go_wp2_with (at_builtin; refine app_own rfl (.tmp 24) (.tmp 28) 33 30 (.slice none 0 0) 1 24 rfl Try.underlying33 info_L3 rfl (by decide) (by decide) w3.heap.size (.slice A3 j c3) j xs rfl (own_below ho2 ba) (some ⟨u2.heap.size, 0, none⟩) 1 1 [.slice (some ⟨b, o, none⟩) 4096 c'] rfl rfl (RdV.new u2 _ _) (by simp [Value.oneCell']) (by omega) w3 (hb2.trans (ba.mono hb2.size)) (by simp; have := hb2.size; omega) ?_; intro A5 c5 u5 h5 b5 h6 _)
        go_roundw
        case rel =>
          refine ⟨j + 1, c5, A5, _, by omega, by go_num, rfl, h5, ?_, b5⟩
          rw [HS.out j hlt]
          refine hd3.out.kpt (.of_grown (S := fun b => (Value.slice A3 j c3).ownBlock = some b) h6 (fun b hb => hb)) (fun b hb => ?_)
          obtain ⟨_, _, cc, hr⟩ := own_row (own_below ho2 ba) hb
          exact row_not_u8 hr (by decide)
        case measure => simp [intOf]; omega
      · obtain rfl : j = N := by omega
        have ru1 := (hb.block _ (heap_in r31)).trans r31
        have ru4 := (hb.block _ (heap_in r34)).trans r34
        have k0 := (six ru0).1
        obtain ⟨m0, m1, m2, m3, m4, m5⟩ := six ru4
        have g0 := frow ru4 0; have g1 := frow ru4 1
        clear ru0
        have n24 : w2.heap.size ≠ w.heap.size + 1 := by have := HSZ.out; omega
        have ru4a := heap_setCell_same u w2.heap.size 0 _ _ (.slice A3 j c3) ru4
        have ru4b := heap_setCell_same _ w2.heap.size 1 _ _ (.slice none 0 0) ru4a
        have ru1a := (heap_setCell_other u ⟨w2.heap.size, 0, none⟩ (w.heap.size + 1) (.slice A3 j c3) (fun e => n24 e.symm)).trans ru1
        have ru1b := (heap_setCell_other (u.setCell ⟨w2.heap.size, 0, none⟩ (.slice A3 j c3)) ⟨w2.heap.size, 1, none⟩ (w.heap.size + 1) (.slice none 0 0) (fun e => n24 e.symm)).trans ru1a
        have ma1 := (six ru4a).2.1
        have ga1 := frow ru4a 1
        obtain ⟨x0, x1, x2, x3, x4, x5⟩ := six ru4b
        obtain ⟨q0, q1, q2, q3, q4, q5⟩ := six ru1b
        have f0 := frow ru1b 0; have f1 := frow ru1b 1; have f2 := frow ru1b 2; have f3 := frow ru1b 3; have f4 := frow ru1b 4; have f5 := frow ru1b 5
        have HR1B := hid ru1b; have HR4 := hid ru4; have N24 := hid n24
        clear ru4a ru1a ru4b ru1b ru1 ru4 r30 r31 r34 row1 row0 n24
        go_wp2_with fail
        obtain ⟨ub, hub⟩ : ∃ ub, ub = (u.setCell ⟨w2.heap.size, 0, none⟩ (.slice A3 j c3)).setCell ⟨w2.heap.size, 1, none⟩ (.slice none 0 0) := ⟨_, rfl⟩
        have kb : Kpt (fun b => b = w2.heap.size) u ub := by rw [hub]; exact (kpt_one _).trans (kpt_one _)
        have hr1c : ub.heap[w.heap.size + 1]? = some (.cells #[.slice none 0 0, .slice none 0 0, .int .i64 0, .bool false, .int .i64 0, .int .i64 0] 59 (0, 0)) := by rw [hub]; exact HR1B.out
        have HR1C := hid hr1c
        clear hr1c
        rw [← hub]
        obtain ⟨uf, huf⟩ : ∃ uf, uf = ((((((ub.setCell ⟨w.heap.size + 1, 0, none⟩ (.slice A3 j c3)).setCell ⟨w.heap.size + 1, 1, none⟩ (.slice none 0 0)).setCell ⟨w.heap.size + 1, 2, none⟩ (.int .i64 x.count)).setCell ⟨w.heap.size + 1, 3, none⟩ (.bool x.down)).setCell ⟨w.heap.size + 1, 4, none⟩ (.int .i64 x.am)).setCell ⟨w.heap.size + 1, 5, none⟩ (.int .i64 x.fm)) := ⟨_, rfl⟩
        have hrf : uf.heap[w.heap.size + 1]? = some (.cells #[.slice A3 j c3, .slice none 0 0, .int .i64 x.count, .bool x.down, .int .i64 x.am, .int .i64 x.fm] 59 (0, 0)) := by rw [huf]; exact row_set6 HR1C.out
        have kf : Kpt (fun b => b = w.heap.size + 1) ub uf := by rw [huf]; exact kpt_set6 (Kpt.refl _ _) rfl
        rw [← huf]
        clear x0 x1 x2 x3 x4 x5 q0 q1 q2 q3 q4 q5 f0 f1 f2 f3 f4 f5
        obtain ⟨z0, z1, z2, z3, z4, z5⟩ := six hrf
        obtain ⟨g3, cc3, he, hg3, hg3'⟩ := own_slice' ho hNpos (by decide)
        simp only [Value.slice.injEq, true_and] at he
        obtain ⟨rfl, rfl⟩ := he
        have hsz := HSZ.out
        have hs3' := HS3.out
        have hob := own_kpt ho kb (fun b hb e => by have := (own_row ho hb).1; omega)
        have hof := own_kpt hob kf (fun b hb e => by have := (own_row ho hb).1; omega)
        have hdb := hd.kpt kb (fun b e => by rw [e]; exact row_not_u8 HR4.out (by decide))
        have hdf := hdb.kpt kf (fun b e => by rw [e]; exact row_not_u8 HR1C.out (by decide))
        rw [HALL.out, ← HX.out] at hdf
        have hbw1 : Below w.heap.size w u := HB3.out.trans (hb.mono HB3.out.size)
        have hbw2 := kpt_below' hbw1 kb hbw1.size (fun k hk hs => by omega)
        have hbw3 := kpt_below' hbw2 kf hbw2.size (fun k hk hs => by omega)
        refine bodyPost_ret (v := .tuple #[.agg #[.slice (some ⟨g3, 0, none⟩) j c3, .slice none 0 0, .int .i64 x.count, .bool x.down, .int .i64 x.am, .int .i64 x.fm], .int .i64 0]) (by simp [results, Try.results54, go_sem, z0, z1, z2, z3, z4, z5]) rfl ⟨_, fun b => b = g3, rfl, ⟨g3, c3, none, 0, xs, [], ?_, fun b => ?_, RdV.own hof, RdV.nil _ _, hdf, Dats.nil _, ?_⟩, ?_, hbw3⟩
        · rw [HX.out, HLN.out]; rfl
        · simp
        · rintro b rfl
          obtain ⟨_, t2, cc, t3⟩ := own_row hof (b := b) rfl
          exact ⟨t2, row_not_u8 t3 (by decide)⟩
        · rintro b rfl
          have := HB3.out.size
          exact .inr (by omega)
  · have hyx : x = y := by rw [HY.out]; simp [hE]
    subst hyx
    clear HY
    obtain ⟨q0, q1, q2, q3, q4, q5⟩ := six r31
    obtain ⟨m0, m1, m2, m3, m4, m5⟩ := six r34
    have f0 := frow r31 0; have f1 := frow r31 1; have f2 := frow r31 2; have f3 := frow r31 3; have f4 := frow r31 4; have f5 := frow r31 5
    rw [hw3] at q0 q1 q2 q3 q4 q5 f0 f1 f2 f3 f4 f5 m0 m1 m2 m3 m4 m5
    clear hw3
    go_wp2_with fail
    rw [← HW3.out]
    have HR := hid r31
    obtain ⟨uf, huf⟩ : ∃ uf, uf = ((((((w3.setCell ⟨w.heap.size + 1, 0, none⟩ (.slice (some ⟨gs, 0, none⟩) N cs)).setCell ⟨w.heap.size + 1, 1, none⟩ (.slice A K c)).setCell ⟨w.heap.size + 1, 2, none⟩ (.int .i64 x.count)).setCell ⟨w.heap.size + 1, 3, none⟩ (.bool x.down)).setCell ⟨w.heap.size + 1, 4, none⟩ (.int .i64 x.am)).setCell ⟨w.heap.size + 1, 5, none⟩ (.int .i64 x.fm)) := ⟨_, rfl⟩
    have hrf : uf.heap[w.heap.size + 1]? = some (.cells #[.slice (some ⟨gs, 0, none⟩) N cs, .slice A K c, .int .i64 x.count, .bool x.down, .int .i64 x.am, .int .i64 x.fm] 59 (0, 0)) := by rw [huf]; exact row_set6 r31
    have kf : Kpt (fun b => b = w.heap.size + 1) w3 uf := by rw [huf]; exact kpt_set6 (Kpt.refl _ _) rfl
    rw [← huf]
    obtain ⟨z0, z1, z2, z3, z4, z5⟩ := six hrf
    refine bodyPost_ret (v := .tuple #[.agg #[.slice (some ⟨gs, 0, none⟩) N cs, .slice A K c, .int .i64 x.count, .bool x.down, .int .i64 x.am, .int .i64 x.fm], .int .i64 E]) (by simp [results, Try.results54, go_sem, z0, z1, z2, z3, z4, z5]) rfl ⟨_, F, rfl, (hv'.below b3).kpt kf (fun b e => by rw [e]; exact row_not_u8 HR.out (by decide)) (fun b hb e => ?_), fun b hb => .inl hb, kpt_below' bb3 kf bb3.size (fun k hk hs => by omega)⟩
    obtain ⟨gs', cs', A', c', xs', ys', he, hf', _, _, _, _, h5'⟩ := H.out
    have := (h5' b hb).1
    omega
end Go.Proofs.Ytddejjmebokgiaa
