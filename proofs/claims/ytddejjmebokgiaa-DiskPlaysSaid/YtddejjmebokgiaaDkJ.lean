/- Copy. -/
import Derived.Test.YtddejjmebokgiaaDkI
namespace Go.Proofs.Ytddejjmebokgiaa
open Go.RowKit
variable {Q : Nat → Prop}
set_option maxHeartbeats 3200000
set_option maxRecDepth 100000
set_option linter.unusedVariables false
set_option linter.unusedSimpArgs false

theorem CloneW_own {base : Nat} (w : World) (A : Option Addr) (c n : Nat) (xs : List Value) (hn : n ≤ 1000000000) (h : w.ownsRow base 78 2 (.slice A n c) n xs) (h1 : ∀ u ∈ xs, u.oneCell' = true) :
    Calls Try.prog 47 #[.slice A n c] w fun e w' => ∃ A' c', e = .returned (.slice A' n c') ∧ w'.ownsRow w.heap.size 78 2 (.slice A' n c') n xs ∧ Below w.heap.size w w' := by
  cases A with
  | none =>
    rcases h.2 with ⟨hv, h0⟩ | ⟨g', cap, cur, hv, _⟩
    · simp only [Value.slice.injEq, true_and] at hv
      obtain ⟨rfl, rfl⟩ := hv
      obtain rfl : xs = [] := List.eq_nil_of_length_eq_zero (by simpa using h.1)
      refine (CloneW_nil w).mono ?_
      rintro e w' ⟨rfl, rfl⟩
      exact ⟨none, 0, rfl, World.ownsRow_nil _ _ _ _, Below.refl _ _⟩
    · simp at hv
  | some a =>
    rcases h.2 with ⟨hv, h0⟩ | ⟨g', cap, cur, hv, _⟩
    · simp at hv
    · simp only [Value.slice.injEq, Option.some.injEq, true_and] at hv
      obtain ⟨rfl, rfl⟩ := hv
      exact CloneW_any w g' 0 c n xs h.1 hn (RdV.own h) h1
theorem below_drewN' {B : Nat} {a w : World} (h : Below B a w) : Below B a w.drew := ⟨h.os, h.tape, h.output, h.size, h.block⟩
def Dk.copy (d : Dk) : Dk := { d with count := 0 }
theorem Copy_is {base : Nat} (w : World) (D : Nat) {S : Nat → Prop} {d : Dk} (h : IsDk Q base w D S d) :
    Calls Try.prog 24 #[ptr D] w fun e w' => ∃ E S', e = .returned (ptr E) ∧ IsDk Q w.heap.size w' E S' d.copy ∧ Below w.heap.size w w' := by
  have hn := fun w => none_is (Q := Q) (base := base) w D (S := S) (d := d)
  unfold ptr at *
  have H := hid h
  obtain ⟨vs, vn, vw, rfl, hD, hr0, hp, ho⟩ := h
  obtain ⟨xs, gs, cs, rfl, s2, s3⟩ := hp.s
  obtain ⟨xn, gn, cn, rfl, n2, n3⟩ := hp.n
  obtain ⟨xw, w2, w3⟩ := hp.w
  obtain ⟨A, c0, rfl, hc0, _⟩ := own_slice w2
  have hr1 : w.heap[D]? = some (.cells #[.slice (some ⟨gs, 0, none⟩) d.safe.length cs, .slice (some ⟨gn, 0, none⟩) d.now.length cn, .slice A d.wn.length c0, .int .i64 d.count, .bool d.down, .bool d.aon, .int .i64 d.aleft, .bool d.fon, .int .i64 d.fleft] 74 (0, 0)) := hr0
  obtain ⟨e0, e1, e2, e3, e4, e5, e6, e7, e8⟩ := nine hr1
  have hsl : d.safe.length ≤ 512 := by rw [ho.len]; exact ho.max
  have hnl := ho.max
  have hwl := ho.wmax
  have hps : 0 < d.safe.length := by rw [ho.len]; exact ho.pos
  have hpn := ho.pos
  have HDlt := hid (heap_in hr0)
  have S2 := hid s2; have S3 := hid s3; have N2 := hid n2; have N3 := hid n3; have W2 := hid w2; have W3 := hid w3; have HO := hid ho
  clear hp hr0 s2 s3 n2 n3 w2 w3 ho
  obtain ⟨v, hv⟩ : ∃ v, v = w.alloc (.cells #[.slice (some ⟨gs, 0, none⟩) d.safe.length cs, .slice (some ⟨gn, 0, none⟩) d.now.length cn, .slice A d.wn.length c0, .int .i64 d.count, .bool d.down, .bool d.aon, .int .i64 d.aleft, .bool d.fon, .int .i64 d.fleft] 74) := ⟨_, rfl⟩
  have bv : Below w.heap.size w v := by rw [hv]; exact (Below.refl _ _).alloc (Nat.le_refl _) _
  have hz : v.heap[w.heap.size]? = some (.cells #[.slice (some ⟨gs, 0, none⟩) d.safe.length cs, .slice (some ⟨gn, 0, none⟩) d.now.length cn, .slice A d.wn.length c0, .int .i64 d.count, .bool d.down, .bool d.aon, .int .i64 d.aleft, .bool d.fon, .int .i64 d.fleft] 74 (0, 0)) := by rw [hv]; exact heap_alloc_new w _
  have HV := hid hv; have HZ := hid hz; have BV := hid bv
  clear hv hz bv
  go_enter Try.func24, Try.ntmps24
  go_wp2_with fail
  refine (hn _ H.out).mono ?_
  rintro e w' ⟨rfl, rfl⟩
  clear hn
  go_wp2_with fail
  rw [← HV.out]
  have sv : v.cell? ⟨D, 0, none⟩ = some (.slice (some ⟨gs, 0, none⟩) d.safe.length cs) ∧ v.cell? ⟨D, 1, none⟩ = some (.slice (some ⟨gn, 0, none⟩) d.now.length cn) ∧ v.cell? ⟨D, 2, none⟩ = some (.slice A d.wn.length c0) := keep3 ⟨e0, e1, e2⟩ BV.out
  have svd : v.drew.cell? ⟨D, 0, none⟩ = some (.slice (some ⟨gs, 0, none⟩) d.safe.length cs) ∧ v.drew.cell? ⟨D, 1, none⟩ = some (.slice (some ⟨gn, 0, none⟩) d.now.length cn) ∧ v.drew.cell? ⟨D, 2, none⟩ = some (.slice A d.wn.length c0) := sv
  have hDg : D ≠ w.heap.size := by have := HDlt.out; omega
  have BVD : Below w.heap.size w v.drew := below_drewN' BV.out
  have C1 := CloneL_any v.drew gs 0 cs d.safe.length xs (by rw [Nat.mul_one]; have := S2.out.1; omega) (by omega) ((RdV.own S2.out).below BVD) (one_dats S3.out)
  have C2 := fun W (b : Below w.heap.size w W) => CloneL_any W gn 0 cn d.now.length xn (by rw [Nat.mul_one]; have := N2.out.1; omega) (by omega) ((RdV.own N2.out).below b) (one_dats N3.out)
  have C3 := fun W (b : Below w.heap.size w W) => CloneW_own W A c0 d.wn.length (wcells d.wn xw) (by omega) (own_below W2.out b) (one_wcells _ _ (one_dats W3.out))
  clear hr1 e0 e1 e2 e3 e4 e5 e6 e7 e8
  go_region_held3 (fun W => W.cell? ⟨D, 0, none⟩ = some (.slice (some ⟨gs, 0, none⟩) d.safe.length cs) ∧ W.cell? ⟨D, 1, none⟩ = some (.slice (some ⟨gn, 0, none⟩) d.now.length cn) ∧ W.cell? ⟨D, 2, none⟩ = some (.slice A d.wn.length c0))
    (first | (with_reducible exact t4 _ _ _ _) | (with_reducible exact t3 _ _ _) | (with_reducible exact t2 _ _) | (with_reducible exact t1 _) | (with_reducible exact s3) | (with_reducible exact s2) | (with_reducible exact s1) | (with_reducible exact svd) | (with_reducible exact sv))
    (first
      | (go_at_call_of 47 (d.wn.length); refine (C3 w2 bb2.out).mono ?_; rintro e w3 ⟨A3, q3, rfl, g3, b3⟩; have s3 := keep3 s2 b3; have bb3 := hid (bb2.out.trans (b3.mono bb2.out.size)); have zz3 := hid (zz2.out.trans (b3.mono zz2.out.size)); have hz3 := (zz3.out.block w.heap.size (heap_in HZ.out)).trans HZ.out; obtain ⟨y0, y1, y2, y3, -⟩ := nine hz3; have f0 := frow hz3 0; have f1 := frow hz3 1; have f2 := frow hz3 2; have f3 := frow hz3 3; have t1 := keep3s (n := 0) s3 hDg hDg; have t2 := fun u => keep3s (n := 1) (t1 u) hDg hDg; have t3 := fun u u' => keep3s (n := 2) (t2 u u') hDg hDg; have t4 := fun u u' u'' => keep3s (n := 3) (t3 u u' u'') hDg hDg; have HZ3 := hid hz3; have G3 := hid g3; clear g3 hz3)
      | (go_at_call_of 39 (d.now.length); refine (C2 w1 bb1.out).mono ?_; rintro e w2 ⟨A2, q2, rfl, g2, b2⟩; have s2 := keep3 s1 b2; have bb2 := hid (bb1.out.trans (b2.mono bb1.out.size)); have zz2 := hid (zz1.out.trans (b2.mono zz1.out.size)); have G2 := hid g2; clear g2)
      | (go_at_call_of 39 (d.safe.length); refine C1.mono ?_; rintro e w1 ⟨A1, q1, rfl, g1, b1⟩; have s1 := keep3 svd b1; have bb1 := hid (BVD.trans (b1.mono BVD.size)); have zz1 := hid (show Below v.heap.size v w1 from (below_drewN' (Below.refl _ v)).trans (b1.mono (Nat.le_refl _))); have G1 := hid g1; clear g1))
  obtain ⟨g1, q1', hx1, hg1, hg1'⟩ := own_slice' G1.out hps (by decide)
  simp only [Value.slice.injEq, true_and] at hx1
  obtain ⟨rfl, rfl⟩ := hx1
  obtain ⟨g2, q2', hx2, hg2, hg2'⟩ := own_slice' G2.out hpn (by decide)
  simp only [Value.slice.injEq, true_and] at hx2
  obtain ⟨rfl, rfl⟩ := hx2
  have hbb : Below v.heap.size v v.drew := below_drewN' (Below.refl _ v)
  have hP : Prt Q w.heap.size w3 d.copy (.slice (some ⟨g1, 0, none⟩) d.safe.length q1) (.slice (some ⟨g2, 0, none⟩) d.now.length q2) (.slice A3 d.wn.length q3) := by
    refine ⟨⟨xs, g1, q1, rfl, own_mono (own_below (own_below G1.out b2) b3) (Nat.le_trans BV.out.size (Nat.le_refl _)), S3.out.below bb3.out⟩, ⟨xn, g2, q2, rfl, own_mono (own_below G2.out b3) bb1.out.size, N3.out.below bb3.out⟩, ⟨xw, own_mono G3.out bb2.out.size, W3.out.below bb3.out⟩, ?_⟩
    simp only [Value.ownBlock, Option.map_some, ne_eq, Option.some.injEq]
    omega
  have hok : d.copy.ok := ⟨HO.out.len, HO.out.pos, HO.out.max, HO.out.wlen, HO.out.wmax, HO.out.win, HO.out.s4, HO.out.n4, HO.out.w4⟩
  have hF : IsDk Q w.heap.size ((((w3.setCell ⟨w.heap.size, 0, none⟩ (.slice (some ⟨g1, 0, none⟩) d.safe.length q1)).setCell ⟨w.heap.size, 1, none⟩ (.slice (some ⟨g2, 0, none⟩) d.now.length q2)).setCell ⟨w.heap.size, 2, none⟩ (.slice A3 d.wn.length q3)).setCell ⟨w.heap.size, 3, none⟩ (.int .i64 0)) w.heap.size (foot w.heap.size (.slice (some ⟨g1, 0, none⟩) d.safe.length q1) (.slice (some ⟨g2, 0, none⟩) d.now.length q2) (.slice A3 d.wn.length q3)) d.copy :=
    refit (Nat.le_refl _) HZ3.out ((kpt_one _).trans ((kpt_one _).trans ((kpt_one _).trans (kpt_one _)))) hP hok (heap_setCell_same _ _ _ _ _ _ (heap_setCell_same _ _ _ _ _ _ (heap_setCell_same _ _ _ _ _ _ (heap_setCell_same _ _ _ _ _ _ HZ3.out))))
  have hB : Below w.heap.size w ((((w3.setCell ⟨w.heap.size, 0, none⟩ (.slice (some ⟨g1, 0, none⟩) d.safe.length q1)).setCell ⟨w.heap.size, 1, none⟩ (.slice (some ⟨g2, 0, none⟩) d.now.length q2)).setCell ⟨w.heap.size, 2, none⟩ (.slice A3 d.wn.length q3)).setCell ⟨w.heap.size, 3, none⟩ (.int .i64 0)) :=
    (((bb3.out.setCell (p := ⟨w.heap.size, 0, none⟩) (Nat.le_refl _) _).setCell (p := ⟨w.heap.size, 1, none⟩) (Nat.le_refl _) _).setCell (p := ⟨w.heap.size, 2, none⟩) (Nat.le_refl _) _).setCell (p := ⟨w.heap.size, 3, none⟩) (Nat.le_refl _) _
  have HF := hid hF; have HB := hid hB
  clear hF hB hP hok t1 t2 t3 t4 f0 f1 f2 f3 y0 y1 y2 y3 C1 C2 C3
  go_wp2
  go_ret
  exact ⟨_, _, rfl, HF.out, HB.out⟩
end Go.Proofs.Ytddejjmebokgiaa
