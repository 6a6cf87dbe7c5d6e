/- does of law 04, a crash (printed by gen04p.py). -/
import Derived.Test.YtddejjmebokgiaaRfJ
namespace Go.Proofs.Ytddejjmebokgiaa
open Go.RowKit
variable {Q : Nat → Prop}
set_option maxHeartbeats 3200000
set_option maxRecDepth 100000
set_option linter.unusedVariables false
set_option linter.unusedSimpArgs false

theorem bools_kpt {T : Nat → Prop} {w w' : World} {A : Option Addr} {ks : List Bool} (h : RdV w A (Bools ks)) (k : Kpt T w w') (hT : 0 < ks.length → ∀ b o, A = some ⟨b, o, none⟩ → ¬ T b) : RdV w' A (Bools ks) := by
  rcases Nat.eq_zero_or_pos ks.length with e | e
  · rw [List.eq_nil_of_length_eq_zero e]
    exact RdV.nil _ _
  · exact rdv_kpt h k (hT e)

theorem does_crash {base : Nat} (w : World) (D : Nat) {S F : Nat → Prop} {v : Value} {d : Dk} (h : IsDk AnyB base w D S d) (hr : IsRf AnyB w F v d) (hsep : ∀ b, S b → ¬ F b) (hf : d.fit) (hw : d.wn.length < 1000000) (n sz bb : Int) (ks : List Bool) (ka : Option Addr) (nk kc : Nat) (s : Nat) (hs : s < 256) (hnk : nk = ks.length) (hks : ks.length ≤ 200000000000000) (hrk : RdV w ka (Bools ks)) (hka : 0 < ks.length → ∀ x off, ka = some ⟨x, off, none⟩ → ¬ S x) :
    Calls Try.prog 34 #[ptr D, v, .agg #[.int .i64 6, .int .i64 n, .int .i64 sz, .int .i64 bb, .slice ka nk kc, .int .u8 (s : Int)]] w (DoesP base w D S F d (d.crash ks n s)) := by
  obtain ⟨gs, cs, A, c, e⟩ := hr.two
  subst e
  have hS : ∀ b, S b → b < w.heap.size := fun b hb => (h.blocks hb).2.1
  have hF : ∀ b, F b → b < w.heap.size := by
    obtain ⟨_, _, _, _, _, _, _, _, _, _, _, _, h5⟩ := hr
    exact fun b hb => (h5 b hb).1
  obtain ⟨w1, hw1, r4, r5, r6, r8, b1, hsz⟩ := rows4 w (.cells #[.slice (some ⟨gs, 0, none⟩) d.safe.length cs, .slice A d.wn.length c, .int .i64 d.count, .bool d.down, .int .i64 d.am, .int .i64 d.fm] 59) (.cells #[.int .i64 6, .int .i64 n, .int .i64 sz, .int .i64 bb, .slice ka nk kc, .int .u8 (s : Int)] 63) (.cells #[.slice none 0 0, .slice none 0 0, .int .i64 0, .bool false, .int .i64 0, .int .i64 0] 59) (.cells #[.slice (some ⟨gs, 0, none⟩) d.safe.length cs, .slice A d.wn.length c, .int .i64 d.count, .bool d.down, .int .i64 d.am, .int .i64 d.fm] 59)
  have i1 := h.below b1
  have hr1 := hr.below b1
  have HS := hid hS; have HF := hid hF; have HSEP := hid hsep; have HFIT := hid hf
  have hbs := (h.blocks h.inS).1
  clear hr hS hF hsep hf h
  have HW1 := hid hw1
  have PC := Crash_is w1 D i1 ka kc nk ks hnk hks (hrk.below b1) hka n s hs
  have RC := fun (W : World) (hw2 : RdV W ka (Bools ks)) (h : IsRf AnyB W F (rfA (.slice (some ⟨gs, 0, none⟩) d.safe.length cs) (.slice A d.wn.length c) d) d) => RCrash_is W h HFIT.out ka kc nk ks hnk hks hw2 n s hs
  have HKA := hid hka; have HRK := hid hrk
  clear hka hrk hnk
  unfold rfA ptr at *
  generalize hNN : d.safe.length = N at *
  generalize hKK : d.wn.length = K at *
  clear hNN hKK
  obtain ⟨m0, m1, m2, m3, m4, m5⟩ := six r5
  have n0 := m0; have n1 := m1; have n4 := m4; have n5 := m5
  rw [HW1.out] at n0 n1 n4 n5
  have HM := hid m1
  clear m0 m2 m3
  go_enter Try.func34, Try.ntmps34
  clear hw1
  go_wp2_with fail
  rw [← HW1.out]
  refine (PC).mono ?_
  rintro e w2 ⟨rfl, t2⟩
  obtain ⟨S2, i2, k2, hs2'⟩ := t2.open3
  have hs2s := k2.size
  have r42 := (k2.block _ (heap_in r4) (fun x => by have := HS.out _ x; omega)).trans r4
  have r52 := (k2.block _ (heap_in r5) (fun x => by have := HS.out _ x; omega)).trans r5
  have r62 := (k2.block _ (heap_in r6) (fun x => by have := HS.out _ x; omega)).trans r6
  have r82 := (k2.block _ (heap_in r8) (fun x => by have := HS.out _ x; omega)).trans r8
  have hr2 := hr1.kpt k2 i1.nou (fun b hb x => HSEP.out b x hb)
  have k02 := hid (show Kpt S w w2 from (Kpt.of_below b1).trans k2)
  have hs2 : ∀ b, S2 b → S b ∨ w1.heap.size ≤ b := hs2'
  have hss := hid (fun b (hb : S2 b) => (hs2' b hb).imp id (fun (h : w1.heap.size ≤ b) => (by omega : w.heap.size ≤ b)))
  clear t2 i1 hr1 r4 r5 r6 r8 k2 hs2'
  obtain ⟨p0, p1, p2, p3, p4, p5⟩ := six r42
  obtain ⟨m0, m1, m2, m3, m4, m5⟩ := six r52
  clear n0 n1 n4 n5
  go_wp2_with fail
  refine (RC _ (bools_kpt HRK.out k02.out HKA.out) hr2).mono ?_
  rintro e w3 ⟨v', F3, rfl, hv3q, hf3', b3⟩
  have hv3 := hv3q.monoQ (Q' := AnyB) (fun _ _ => trivial)
  clear RC hv3q
  have hf3 : ∀ b, F3 b → F b ∨ w2.heap.size ≤ b := hf3'

  obtain ⟨g3, cs3, A3, c3, ev⟩ := hv3.two
  subst ev
  have r63 := (b3.block _ (heap_in r62)).trans r62
  have r83 := (b3.block _ (heap_in r82)).trans r82
  have h23 := b3.size
  obtain ⟨x, hx⟩ : ∃ x, x = d.crash ks n s := ⟨_, rfl⟩
  rw [← hx] at hv3 i2 ⊢
  have HX := hid hx
  have i3 := i2.below b3
  have HLT := hid (fun b (hb : S2 b) => (i2.blocks hb).2.1)
  have K3' := hid (show Kpt S w w3 from (k02.out.trans (.of_below b3)))
  unfold rfA at *
  generalize hN3 : x.safe.length = N3 at *
  generalize hK3 : x.wn.length = K3 at *
  clear hx hN3 hK3
  obtain ⟨q0, q1, q2, q3, q4, q5⟩ := six r83
  have f0 := frow r83 0; have f1 := frow r83 1; have f2 := frow r83 2; have f3 := frow r83 3; have f4 := frow r83 4; have f5 := frow r83 5
  obtain ⟨wg, hwg⟩ : ∃ wg, wg = ((((((w3.setCell ⟨w.heap.size + 3, 0, none⟩ (.slice (some ⟨g3, 0, none⟩) N3 cs3)).setCell ⟨w.heap.size + 3, 1, none⟩ (.slice A3 K3 c3)).setCell ⟨w.heap.size + 3, 2, none⟩ (.int .i64 x.count)).setCell ⟨w.heap.size + 3, 3, none⟩ (.bool x.down)).setCell ⟨w.heap.size + 3, 4, none⟩ (.int .i64 x.am)).setCell ⟨w.heap.size + 3, 5, none⟩ (.int .i64 x.fm)) := ⟨_, rfl⟩
  have rg8 : wg.heap[w.heap.size + 3]? = some (.cells #[.slice (some ⟨g3, 0, none⟩) N3 cs3, .slice A3 K3 c3, .int .i64 x.count, .bool x.down, .int .i64 x.am, .int .i64 x.fm] 59 (0, 0)) := by rw [hwg]; exact row_set6 r83
  have kg : Kpt (fun b => b = w.heap.size + 3) w3 wg := by rw [hwg]; exact kpt_set6 (Kpt.refl _ _) rfl
  have rg6 := (kg.block _ (heap_in r63) (by omega)).trans r63
  obtain ⟨x0, x1, x2, x3, x4, x5⟩ := six rg8
  obtain ⟨y0, y1, y2, y3, y4, y5⟩ := six rg6
  have e0 := frow rg6 0; have e1 := frow rg6 1; have e2 := frow rg6 2; have e3 := frow rg6 3; have e4 := frow rg6 4; have e5 := frow rg6 5
  have HWG := hid hwg
  rw [hwg] at x0 x1 x2 x3 x4 x5 y0 y1 y2 y3 y4 y5 e0 e1 e2 e3 e4 e5
  clear hwg
  go_wp2_with fail
  rw [← HWG.out]
  obtain ⟨wf, hwf⟩ : ∃ wf, wf = ((((((wg.setCell ⟨w.heap.size + 2, 0, none⟩ (.slice (some ⟨g3, 0, none⟩) N3 cs3)).setCell ⟨w.heap.size + 2, 1, none⟩ (.slice A3 K3 c3)).setCell ⟨w.heap.size + 2, 2, none⟩ (.int .i64 x.count)).setCell ⟨w.heap.size + 2, 3, none⟩ (.bool x.down)).setCell ⟨w.heap.size + 2, 4, none⟩ (.int .i64 x.am)).setCell ⟨w.heap.size + 2, 5, none⟩ (.int .i64 x.fm)) := ⟨_, rfl⟩
  have hrf : wf.heap[w.heap.size + 2]? = some (.cells #[.slice (some ⟨g3, 0, none⟩) N3 cs3, .slice A3 K3 c3, .int .i64 x.count, .bool x.down, .int .i64 x.am, .int .i64 x.fm] 59 (0, 0)) := by rw [hwf]; exact row_set6 rg6
  have kf : Kpt (fun b => b = w.heap.size + 2) wg wf := by rw [hwf]; exact kpt_set6 (Kpt.refl _ _) rfl
  have kk : Kpt (fun b => b = w.heap.size + 2 ∨ b = w.heap.size + 3) w3 wf := (kg.mono (fun b e => .inr e)).trans (kf.mono (fun b e => .inl e))
  rw [← hwf]
  obtain ⟨z0, z1, z2, z3, z4, z5⟩ := six hrf
  refine bodyPost_ret (v := .tuple #[.agg #[.slice (some ⟨g3, 0, none⟩) N3 cs3, .slice A3 K3 c3, .int .i64 x.count, .bool x.down, .int .i64 x.am, .int .i64 x.fm], .bool true]) (by simp [results, Try.results34, go_sem, z0, z1, z2, z3, z4, z5]) rfl ?_
  exact (does_end HS.out HF.out HSEP.out (Nat.le_add_right _ 2) (Nat.le_add_right _ 3) (by omega) (by omega) hs2s i3 hs2 hv3 hf3 HLT.out K3'.out hss.out r63 r83 kk h23 _ rfl).cast HX.out

end Go.Proofs.Ytddejjmebokgiaa
