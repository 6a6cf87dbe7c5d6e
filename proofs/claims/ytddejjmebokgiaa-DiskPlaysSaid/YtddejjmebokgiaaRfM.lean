/- does of law 04: a read, and what does nothing (printed by gen04p.py). -/
import Derived.Test.YtddejjmebokgiaaRfL
import Derived.Deep.RegionHeld3
namespace Go.Proofs.Ytddejjmebokgiaa
open Go.RowKit
variable {Q : Nat → Prop}
set_option maxHeartbeats 3200000
set_option maxRecDepth 100000
set_option linter.unusedVariables false
set_option linter.unusedSimpArgs false

theorem drew_cell {v : World} {p : Addr} {x : Option Value} (h : v.cell? p = x) : v.drew.cell? p = x := h
theorem cell_set6 {w : World} {g b o : Nat} {x v0 v1 v2 v3 v4 v5 : Value} (hb : b ≠ g) (h : w.cell? ⟨b, o, none⟩ = some x) : ((((((w.setCell ⟨g, 0, none⟩ v0).setCell ⟨g, 1, none⟩ v1).setCell ⟨g, 2, none⟩ v2).setCell ⟨g, 3, none⟩ v3).setCell ⟨g, 4, none⟩ v4).setCell ⟨g, 5, none⟩ v5).drew.cell? ⟨b, o, none⟩ = some x :=
  drew_cell (cell_far (p := ⟨g, 5, none⟩) hb (cell_far (p := ⟨g, 4, none⟩) hb (cell_far (p := ⟨g, 3, none⟩) hb (cell_far (p := ⟨g, 2, none⟩) hb (cell_far (p := ⟨g, 1, none⟩) hb (cell_far (p := ⟨g, 0, none⟩) hb h))))))

theorem does_read {base : Nat} (w : World) (D : Nat) {S F : Nat → Prop} {v : Value} {d : Dk} (h : IsDk AnyB base w D S d) (hr : IsRf AnyB w F v d) (hsep : ∀ b, S b → ¬ F b) (hf : d.fit) (hw : d.wn.length < 1000000) (n sz bb : Int) (ka : Option Addr) (nk kc : Nat) (s : Nat) (hs : s < 256) :
    Calls Try.prog 34 #[ptr D, v, .agg #[.int .i64 3, .int .i64 n, .int .i64 sz, .int .i64 bb, .slice ka nk kc, .int .u8 (s : Int)]] w (DoesP base w D S F d (d)) := by
  obtain ⟨gs, cs, A, c, e⟩ := hr.two
  subst e
  have hS : ∀ b, S b → b < w.heap.size := fun b hb => (h.blocks hb).2.1
  have hF : ∀ b, F b → b < w.heap.size := by
    obtain ⟨_, _, _, _, _, _, _, _, _, _, _, _, h5⟩ := hr
    exact fun b hb => (h5 b hb).1
  obtain ⟨w1, hw1, r4, r5, r6, r8, b1, hsz⟩ := rows4 w (.cells #[.slice (some ⟨gs, 0, none⟩) d.safe.length cs, .slice A d.wn.length c, .int .i64 d.count, .bool d.down, .int .i64 d.am, .int .i64 d.fm] 59) (.cells #[.int .i64 3, .int .i64 n, .int .i64 sz, .int .i64 bb, .slice ka nk kc, .int .u8 (s : Int)] 63) (.cells #[.slice none 0 0, .slice none 0 0, .int .i64 0, .bool false, .int .i64 0, .int .i64 0] 59) (.cells #[.slice (some ⟨gs, 0, none⟩) d.safe.length cs, .slice A d.wn.length c, .int .i64 d.count, .bool d.down, .int .i64 d.am, .int .i64 d.fm] 59)
  have i1 := h.below b1
  have hr1 := hr.below b1
  have HS := hid hS; have HF := hid hF; have HSEP := hid hsep; have HFIT := hid hf
  have hbs := (h.blocks h.inS).1
  clear hr hS hF hsep hf h
  have HW1 := hid hw1
  have PC := Read_is w1 D i1 n
  have RC := fun (W : World) (h : IsRf AnyB W F (rfA (.slice (some ⟨gs, 0, none⟩) d.safe.length cs) (.slice A d.wn.length c) d) d) => RRead_is W h HFIT.out n
  generalize hL : d.rdB n = L at *
  generalize hE : d.rdE n = er at *
  clear hL hE
  unfold rfA ptr at *
  generalize hNN : d.safe.length = N at *
  generalize hKK : d.wn.length = K at *
  clear hNN hKK
  obtain ⟨m0, m1, m2, m3, m4, m5⟩ := six r5
  have n0 := m0; have n1 := m1
  rw [HW1.out] at n0 n1
  clear m0 m2 m3 m4 m5
  go_enter Try.func34, Try.ntmps34
  clear hw1
  go_wp2_with fail
  rw [← HW1.out]
  refine (PC).mono ?_
  rintro e w2 ⟨Ar, cr, rfl, or_, b2⟩
  have r42 := (b2.block _ (heap_in r4)).trans r4
  have r52 := (b2.block _ (heap_in r5)).trans r5
  have r62 := (b2.block _ (heap_in r6)).trans r6
  have hr2 := hr1.below b2
  have hor := or_.rd
  clear PC n0 n1 r4 r5 r6 r8 m1 or_
  obtain ⟨m0, m1, m2, m3, m4, m5⟩ := six r52
  obtain ⟨p0, p1, p2, p3, p4, p5⟩ := six r42
  clear m0 m2 m3 m4 m5
  go_wp2_with fail
  refine (RC _ hr2).mono ?_
  rintro e w3 ⟨A3, c3, rfl, hrr, b3⟩
  have r43 := (b3.block _ (heap_in r42)).trans r42
  have r63 := (b3.block _ (heap_in r62)).trans r62
  have hr3 := hr2.below b3
  have b13 := b2.trans (b3.mono b2.size)
  have hs23 := b13.size
  have hor3 : RdB w3 Ar L := RdV.below hor b3
  have SB := fun W (h1 : RdB W Ar L) (h2 : RdB W A3 L) => SameBytes_self W Ar A3 cr c3 L.length L.length L rfl rfl h1 h2
  have HOR := hid hor3; have HRR := hid hrr; have HR3 := hid hr3; have B13 := hid b13; have R63 := hid r63
  clear hr3 hr2 hr1 r42 r52 r62 RC p0 p1 p2 p3 p4 p5 m1 hor hrr b2 b3 hor3
  obtain ⟨p0, p1, p2, p3, p4, p5⟩ := six r43
  obtain ⟨y0, y1, y2, y3, y4, y5⟩ := six r63
  have e0 := frow r63 0; have e1 := frow r63 1; have e2 := frow r63 2; have e3 := frow r63 3; have e4 := frow r63 4; have e5 := frow r63 5
  clear r43 r63 b13
  have s0 : w3.cell? ⟨w.heap.size, 0, none⟩ = some (.slice (some ⟨gs, 0, none⟩) N cs) ∧ w3.cell? ⟨w.heap.size, 1, none⟩ = some (.slice A K c) ∧ w3.cell? ⟨w.heap.size, 2, none⟩ = some (.int .i64 d.count) ∧ w3.cell? ⟨w.heap.size, 3, none⟩ = some (.bool d.down) ∧ w3.cell? ⟨w.heap.size, 4, none⟩ = some (.int .i64 d.am) ∧ w3.cell? ⟨w.heap.size, 5, none⟩ = some (.int .i64 d.fm) := ⟨p0, p1, p2, p3, p4, p5⟩
  have s0d : w3.drew.cell? ⟨w.heap.size, 0, none⟩ = some (.slice (some ⟨gs, 0, none⟩) N cs) ∧ w3.drew.cell? ⟨w.heap.size, 1, none⟩ = some (.slice A K c) ∧ w3.drew.cell? ⟨w.heap.size, 2, none⟩ = some (.int .i64 d.count) ∧ w3.drew.cell? ⟨w.heap.size, 3, none⟩ = some (.bool d.down) ∧ w3.drew.cell? ⟨w.heap.size, 4, none⟩ = some (.int .i64 d.am) ∧ w3.drew.cell? ⟨w.heap.size, 5, none⟩ = some (.int .i64 d.fm) := ⟨p0, p1, p2, p3, p4, p5⟩
  have hne : w.heap.size ≠ w.heap.size + 1 + 1 := by omega
  have s1 : ((((((w3.setCell ⟨w.heap.size + 1 + 1, 0, none⟩ (.slice (some ⟨gs, 0, none⟩) N cs)).setCell ⟨w.heap.size + 1 + 1, 1, none⟩ (.slice A K c)).setCell ⟨w.heap.size + 1 + 1, 2, none⟩ (.int .i64 d.count)).setCell ⟨w.heap.size + 1 + 1, 3, none⟩ (.bool d.down)).setCell ⟨w.heap.size + 1 + 1, 4, none⟩ (.int .i64 d.am)).setCell ⟨w.heap.size + 1 + 1, 5, none⟩ (.int .i64 d.fm)).drew.cell? ⟨w.heap.size, 0, none⟩ = some (.slice (some ⟨gs, 0, none⟩) N cs) ∧ ((((((w3.setCell ⟨w.heap.size + 1 + 1, 0, none⟩ (.slice (some ⟨gs, 0, none⟩) N cs)).setCell ⟨w.heap.size + 1 + 1, 1, none⟩ (.slice A K c)).setCell ⟨w.heap.size + 1 + 1, 2, none⟩ (.int .i64 d.count)).setCell ⟨w.heap.size + 1 + 1, 3, none⟩ (.bool d.down)).setCell ⟨w.heap.size + 1 + 1, 4, none⟩ (.int .i64 d.am)).setCell ⟨w.heap.size + 1 + 1, 5, none⟩ (.int .i64 d.fm)).drew.cell? ⟨w.heap.size, 1, none⟩ = some (.slice A K c) ∧ ((((((w3.setCell ⟨w.heap.size + 1 + 1, 0, none⟩ (.slice (some ⟨gs, 0, none⟩) N cs)).setCell ⟨w.heap.size + 1 + 1, 1, none⟩ (.slice A K c)).setCell ⟨w.heap.size + 1 + 1, 2, none⟩ (.int .i64 d.count)).setCell ⟨w.heap.size + 1 + 1, 3, none⟩ (.bool d.down)).setCell ⟨w.heap.size + 1 + 1, 4, none⟩ (.int .i64 d.am)).setCell ⟨w.heap.size + 1 + 1, 5, none⟩ (.int .i64 d.fm)).drew.cell? ⟨w.heap.size, 2, none⟩ = some (.int .i64 d.count) ∧ ((((((w3.setCell ⟨w.heap.size + 1 + 1, 0, none⟩ (.slice (some ⟨gs, 0, none⟩) N cs)).setCell ⟨w.heap.size + 1 + 1, 1, none⟩ (.slice A K c)).setCell ⟨w.heap.size + 1 + 1, 2, none⟩ (.int .i64 d.count)).setCell ⟨w.heap.size + 1 + 1, 3, none⟩ (.bool d.down)).setCell ⟨w.heap.size + 1 + 1, 4, none⟩ (.int .i64 d.am)).setCell ⟨w.heap.size + 1 + 1, 5, none⟩ (.int .i64 d.fm)).drew.cell? ⟨w.heap.size, 3, none⟩ = some (.bool d.down) ∧ ((((((w3.setCell ⟨w.heap.size + 1 + 1, 0, none⟩ (.slice (some ⟨gs, 0, none⟩) N cs)).setCell ⟨w.heap.size + 1 + 1, 1, none⟩ (.slice A K c)).setCell ⟨w.heap.size + 1 + 1, 2, none⟩ (.int .i64 d.count)).setCell ⟨w.heap.size + 1 + 1, 3, none⟩ (.bool d.down)).setCell ⟨w.heap.size + 1 + 1, 4, none⟩ (.int .i64 d.am)).setCell ⟨w.heap.size + 1 + 1, 5, none⟩ (.int .i64 d.fm)).drew.cell? ⟨w.heap.size, 4, none⟩ = some (.int .i64 d.am) ∧ ((((((w3.setCell ⟨w.heap.size + 1 + 1, 0, none⟩ (.slice (some ⟨gs, 0, none⟩) N cs)).setCell ⟨w.heap.size + 1 + 1, 1, none⟩ (.slice A K c)).setCell ⟨w.heap.size + 1 + 1, 2, none⟩ (.int .i64 d.count)).setCell ⟨w.heap.size + 1 + 1, 3, none⟩ (.bool d.down)).setCell ⟨w.heap.size + 1 + 1, 4, none⟩ (.int .i64 d.am)).setCell ⟨w.heap.size + 1 + 1, 5, none⟩ (.int .i64 d.fm)).drew.cell? ⟨w.heap.size, 5, none⟩ = some (.int .i64 d.fm) := ⟨cell_set6 hne p0, cell_set6 hne p1, cell_set6 hne p2, cell_set6 hne p3, cell_set6 hne p4, cell_set6 hne p5⟩
  clear hne
  go_wp2_with fail
  go_region_held3 (fun W1 => W1.cell? ⟨w.heap.size, 0, none⟩ = some (.slice (some ⟨gs, 0, none⟩) N cs) ∧ W1.cell? ⟨w.heap.size, 1, none⟩ = some (.slice A K c) ∧ W1.cell? ⟨w.heap.size, 2, none⟩ = some (.int .i64 d.count) ∧ W1.cell? ⟨w.heap.size, 3, none⟩ = some (.bool d.down) ∧ W1.cell? ⟨w.heap.size, 4, none⟩ = some (.int .i64 d.am) ∧ W1.cell? ⟨w.heap.size, 5, none⟩ = some (.int .i64 d.fm))
    (first | (with_reducible exact s1) | (with_reducible exact s0d) | (with_reducible exact s0))
    (first | (go_at_call_of 13 (L.length); refine (SB _ (by first | exact HOR.out | exact RdV.below HOR.out (below_drewN' (Below.refl _ _))) (by first | exact HRR.out | exact RdV.below HRR.out (below_drewN' (Below.refl _ _)))).mono ?_; rintro e w4 ⟨rfl, rfl⟩))
  all_goals
    obtain ⟨wf, hwf⟩ : ∃ wf, wf = ((((((w3.setCell ⟨w.heap.size + 2, 0, none⟩ (.slice (some ⟨gs, 0, none⟩) N cs)).setCell ⟨w.heap.size + 2, 1, none⟩ (.slice A K c)).setCell ⟨w.heap.size + 2, 2, none⟩ (.int .i64 d.count)).setCell ⟨w.heap.size + 2, 3, none⟩ (.bool d.down)).setCell ⟨w.heap.size + 2, 4, none⟩ (.int .i64 d.am)).setCell ⟨w.heap.size + 2, 5, none⟩ (.int .i64 d.fm)) := ⟨_, rfl⟩
    have hrf : wf.heap[w.heap.size + 2]? = some (.cells #[.slice (some ⟨gs, 0, none⟩) N cs, .slice A K c, .int .i64 d.count, .bool d.down, .int .i64 d.am, .int .i64 d.fm] 59 (0, 0)) := by rw [hwf]; exact row_set6 R63.out
    have kf : Kpt (fun b => b = w.heap.size + 2) w3 wf := by rw [hwf]; exact kpt_set6 (Kpt.refl _ _) rfl
    go_wp2_with fail
    rw [← hwf]
    obtain ⟨z0, z1, z2, z3, z4, z5⟩ := six hrf
    refine bodyPost_ret (v := .tuple #[.agg #[.slice (some ⟨gs, 0, none⟩) N cs, .slice A K c, .int .i64 d.count, .bool d.down, .int .i64 d.am, .int .i64 d.fm], .bool true]) (by simp [results, Try.results34, go_sem, z0, z1, z2, z3, z4, z5]) rfl ?_
    have kfd := kf.trans (kpt_drew _ wf)
    have hu : ∀ b, b = w.heap.size + 2 → ¬ U8 w3 b := by rintro b rfl; exact row_not_u8 R63.out (by decide)
    refine ⟨_, S, F, rfl, (i1.below B13.out).kpt kfd hu (fun b hb e => by have := HS.out b hb; omega), HR3.out.kpt kfd hu (fun b hb e => by have := HF.out b hb; omega), HSEP.out, (Kpt.of_below (b1.trans (B13.out.mono b1.size))).up kfd (fun b hb e => by omega), fun b hb => .inl hb, fun b hb => .inl hb⟩

theorem does_other {base : Nat} (w : World) (D : Nat) {S F : Nat → Prop} {v : Value} {d : Dk} (h : IsDk AnyB base w D S d) (hr : IsRf AnyB w F v d) (hsep : ∀ b, S b → ¬ F b) (hf : d.fit) (hw : d.wn.length < 1000000) (n sz bb : Int) (k : Int) (h1 : (k == 1) = false) (h2 : (k == 2) = false) (h3 : (k == 3) = false) (h4 : (k == 4) = false) (h5 : (k == 5) = false) (h6 : (k == 6) = false) (ka : Option Addr) (nk kc : Nat) (s : Nat) (hs : s < 256) :
    Calls Try.prog 34 #[ptr D, v, .agg #[.int .i64 k, .int .i64 n, .int .i64 sz, .int .i64 bb, .slice ka nk kc, .int .u8 (s : Int)]] w (DoesP base w D S F d (d)) := by
  obtain ⟨gs, cs, A, c, e⟩ := hr.two
  subst e
  have hS : ∀ b, S b → b < w.heap.size := fun b hb => (h.blocks hb).2.1
  have hF : ∀ b, F b → b < w.heap.size := by
    obtain ⟨_, _, _, _, _, _, _, _, _, _, _, _, h5⟩ := hr
    exact fun b hb => (h5 b hb).1
  obtain ⟨w1, hw1, r4, r5, r6, r8, b1, hsz⟩ := rows4 w (.cells #[.slice (some ⟨gs, 0, none⟩) d.safe.length cs, .slice A d.wn.length c, .int .i64 d.count, .bool d.down, .int .i64 d.am, .int .i64 d.fm] 59) (.cells #[.int .i64 k, .int .i64 n, .int .i64 sz, .int .i64 bb, .slice ka nk kc, .int .u8 (s : Int)] 63) (.cells #[.slice none 0 0, .slice none 0 0, .int .i64 0, .bool false, .int .i64 0, .int .i64 0] 59) (.cells #[.slice (some ⟨gs, 0, none⟩) d.safe.length cs, .slice A d.wn.length c, .int .i64 d.count, .bool d.down, .int .i64 d.am, .int .i64 d.fm] 59)
  have i1 := h.below b1
  have H := hid h
  have HR := hid hr
  have hr1 := hr.below b1
  have HS := hid hS; have HF := hid hF; have HSEP := hid hsep; have HFIT := hid hf
  have hbs := (h.blocks h.inS).1
  clear hr hS hF hsep hf h
  unfold rfA ptr at *
  generalize hNN : d.safe.length = N at *
  generalize hKK : d.wn.length = K at *
  clear hNN hKK
  clear hw1 r4 r5 r6 r8 i1 hr1 b1
  obtain ⟨w1, hw1, r4, r5, r6, r8, b1, hsz⟩ := rows4 w (.cells #[.slice (some ⟨gs, 0, none⟩) N cs, .slice A K c, .int .i64 d.count, .bool d.down, .int .i64 d.am, .int .i64 d.fm] 59) (.cells #[.int .i64 k, .int .i64 n, .int .i64 sz, .int .i64 bb, .slice ka nk kc, .int .u8 (s : Int)] 63) (.cells #[.slice (some ⟨gs, 0, none⟩) N cs, .slice A K c, .int .i64 d.count, .bool d.down, .int .i64 d.am, .int .i64 d.fm] 59) (.cells #[.slice (some ⟨gs, 0, none⟩) N cs, .slice A K c, .int .i64 d.count, .bool d.down, .int .i64 d.am, .int .i64 d.fm] 59)
  have i1 := H.out.below b1
  have hr1 := HR.out.below b1
  obtain ⟨z0, z1, z2, z3, z4, z5⟩ := six r6
  go_enter Try.func34, Try.ntmps34
  go_wp2_with fail
  rw [← hw1]
  refine bodyPost_ret (v := .tuple #[.agg #[.slice (some ⟨gs, 0, none⟩) N cs, .slice A K c, .int .i64 d.count, .bool d.down, .int .i64 d.am, .int .i64 d.fm], .bool true]) (by simp [results, Try.results34, go_sem, z0, z1, z2, z3, z4, z5]) rfl ?_
  refine ⟨_, S, F, rfl, i1, hr1, HSEP.out, Kpt.of_below b1, fun b hb => .inl hb, fun b hb => .inl hb⟩

end Go.Proofs.Ytddejjmebokgiaa
