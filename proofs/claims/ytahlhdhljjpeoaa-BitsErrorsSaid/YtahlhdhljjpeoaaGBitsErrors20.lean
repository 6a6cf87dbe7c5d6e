/- Texts joined: SpC, SpD, SpE, SpI. -/
import Derived.Test.YtahlhdhljjpeoaaGBitsErrors19
/- space. -/
namespace Go.Proofs.Ytahlhdhljjpeoaa
open Go.RowKit
set_option maxHeartbeats 3200000
set_option maxRecDepth 100000
set_option linter.unusedVariables false
set_option linter.unusedSimpArgs false

theorem set7 {w : World} {g : Nat} {t : TypeId} {x0 x1 x2 x3 x4 x5 x6 : Value} (h : w.heap[g]? = some (.cells #[x0, x1, x2, x3, x4, x5, x6] t (0, 0))) (y0 y1 y2 y3 y4 y5 y6 : Value) :
    (((((((w.setCell ⟨g, 0, none⟩ y0).setCell ⟨g, 1, none⟩ y1).setCell ⟨g, 2, none⟩ y2).setCell ⟨g, 3, none⟩ y3).setCell ⟨g, 4, none⟩ y4).setCell ⟨g, 5, none⟩ y5).setCell ⟨g, 6, none⟩ y6).heap[g]? = some (.cells #[y0, y1, y2, y3, y4, y5, y6] t (0, 0)) ∧
    Kpt (fun b => b = g) w (((((((w.setCell ⟨g, 0, none⟩ y0).setCell ⟨g, 1, none⟩ y1).setCell ⟨g, 2, none⟩ y2).setCell ⟨g, 3, none⟩ y3).setCell ⟨g, 4, none⟩ y4).setCell ⟨g, 5, none⟩ y5).setCell ⟨g, 6, none⟩ y6) := by
  refine ⟨?_, Kpt.setCell (Kpt.setCell (Kpt.setCell (Kpt.setCell (Kpt.setCell (Kpt.setCell (Kpt.setCell (Kpt.refl (fun b => b = g) w) (p := ⟨g, 0, none⟩) rfl _) (p := ⟨g, 1, none⟩) rfl _) (p := ⟨g, 2, none⟩) rfl _) (p := ⟨g, 3, none⟩) rfl _) (p := ⟨g, 4, none⟩) rfl _) (p := ⟨g, 5, none⟩) rfl _) (p := ⟨g, 6, none⟩) rfl _⟩
  have a0 := heap_setCell_same _ g 0 _ _ y0 h
  have a1 := heap_setCell_same _ g 1 _ _ y1 a0
  have a2 := heap_setCell_same _ g 2 _ _ y2 a1
  have a3 := heap_setCell_same _ g 3 _ _ y3 a2
  have a4 := heap_setCell_same _ g 4 _ _ y4 a3
  have a5 := heap_setCell_same _ g 5 _ _ y5 a4
  have a6 := heap_setCell_same _ g 6 _ _ y6 a5
  exact a6
theorem IsPl.new {base : Nat} {W : World} {n A c : Nat} {vb : Value} {xs : List Value} {P : Nat} (hn : 1 ≤ n ∧ n ≤ 512) (hvb : vb = .slice (some ⟨A, 0, none⟩) n c) (h1 : W.ownsRow base 61 1 vb n xs) (h2 : Dats QT W xs (List.replicate n (zeros 4096)))
    (hP : base ≤ P) (hr : W.heap[P]? = some (.cells #[vb, .bool false, .int .i64 0, .slice none 0 0] 50 (0, 0))) : IsPl QT base W P (footP P vb (.slice none 0 0)) (spZ n) := by
  refine ⟨vb, .slice none 0 0, rfl, hP, hr, ⟨⟨xs, A, c, ?_, ?_, h2⟩, ⟨[], none, 0, rfl, World.ownsRow_nil _ _ _ _⟩⟩, spZ_ok n hn.1 hn.2⟩
  · rw [hvb]; simp [spZ]
  · simpa [spZ] using h1
theorem space_any (w : World) (n : Nat) (h1 : 64 ≤ n) (h2 : n ≤ 512) :
    Calls Try.prog 18 #[.int .i64 (n : Int)] w fun e w' => ∃ P S, e = .returned (.tuple #[.pointer (some ⟨P, 0, none⟩), (ofL n).val, .bool true]) ∧ IsPl QT w.heap.size w' P S (spD n) ∧ Below w.heap.size w w' := by
  have OF := fun W => refOf_any W (n : Int)
  have he : errN (n : Int) = 0 := by unfold errN; rw [if_pos (show okN (n : Int) = true from decide_eq_true (by omega))]
  simp only [he] at OF
  have BL := fun W => Blank_any W n (by omega)
  obtain ⟨hR, hbl⟩ := right_ofL n h1 h2
  have EM := fun (base : Nat) (W : World) (P : Nat) (S : Nat → Prop) (hW : IsPl QT base W P S (spZ n)) => Empty_yes W P hW (by simp [spZ]) (by simp [spZ]) (ofL n) (by rw [hbl]; simp [spZ]) hR
  simp only [spD_is n h1 h2] at EM
  have HOF := hid OF; have HBL := hid BL; have HEM := hid EM
  clear OF BL EM hR hbl he
  generalize spD n = D at *
  generalize ofL (n : Int) = l at *
  obtain ⟨l0, l1, l2, l3, l4, l5, l6⟩ := l
  simp only [Lay.val, spV] at HOF HEM ⊢
  have OF := HOF.out (w.alloc (.cells #[(.int .i64 0), (.int .i64 0), (.int .i64 0), (.int .i64 0), (.int .i64 0), (.int .i64 0), (.int .i64 0)] 39))
  have hr0 := heap_alloc_new w (.cells #[(.int .i64 0), (.int .i64 0), (.int .i64 0), (.int .i64 0), (.int .i64 0), (.int .i64 0), (.int .i64 0)] 39)
  have hb0 : Below w.heap.size w (w.alloc (.cells #[(.int .i64 0), (.int .i64 0), (.int .i64 0), (.int .i64 0), (.int .i64 0), (.int .i64 0), (.int .i64 0)] 39)) := (Below.refl _ _).alloc (Nat.le_refl _) _
  have HR0 := hid hr0; have HB0 := hid hb0
  clear hr0 hb0
  go_enter Try.func18, Try.ntmps18
  go_wp2_with fail
  refine OF.mono ?_
  rintro e w1 ⟨rfl, b1⟩
  clear OF
  have hb1 := HB0.out.trans (b1.mono HB0.out.size)
  have r01 := (b1.block _ (heap_in HR0.out)).trans HR0.out
  have r5 := heap_alloc_new w1 (.cells #[(.int .i64 l0), (.int .i64 l1), (.int .i64 l2), (.int .i64 l3), (.int .i64 l4), (.int .i64 l5), (.int .i64 l6)] 39)
  have b5 : Below w1.heap.size w1 (w1.alloc (.cells #[(.int .i64 l0), (.int .i64 l1), (.int .i64 l2), (.int .i64 l3), (.int .i64 l4), (.int .i64 l5), (.int .i64 l6)] 39)) := (Below.refl _ _).alloc (Nat.le_refl _) _
  have BL := HBL.out (w1.alloc (.cells #[(.int .i64 l0), (.int .i64 l1), (.int .i64 l2), (.int .i64 l3), (.int .i64 l4), (.int .i64 l5), (.int .i64 l6)] 39))
  have HB5 := hid (hb1.trans (b5.mono hb1.size)); have HR05 := hid ((b5.block _ (heap_in r01)).trans r01); have HR5 := hid r5
  have hlt : w.heap.size < w1.heap.size := heap_in r01
  clear b1 hb1 r01 r5 b5
  go_wp2_with fail
  refine BL.mono ?_
  rintro e w2 ⟨A, c, xs, rfl, o2, d2, b2⟩
  clear BL
  obtain ⟨gb, cb, eb, hg1, hg2⟩ := own_sl1 o2 (by omega)
  simp only [Value.slice.injEq, true_and] at eb
  obtain ⟨rfl, rfl⟩ := eb
  have hb2 := HB5.out.trans (b2.mono HB5.out.size)
  have r02 := (b2.block _ (heap_in HR05.out)).trans HR05.out
  have r52 := (b2.block _ (heap_in HR5.out)).trans HR5.out
  have ba : Below w2.heap.size w2 (w2.alloc (.cells #[.slice (some ⟨gb, 0, none⟩) n c, .bool false, .int .i64 0, .slice none 0 0] 50)) := (Below.refl _ _).alloc (Nat.le_refl _) _
  have hb3 := hb2.trans (ba.mono hb2.size)
  have r03 := (ba.block _ (heap_in r02)).trans r02
  have r53 := (ba.block _ (heap_in r52)).trans r52
  have hz5 : (w1.alloc (.cells #[(.int .i64 l0), (.int .i64 l1), (.int .i64 l2), (.int .i64 l3), (.int .i64 l4), (.int .i64 l5), (.int .i64 l6)] 39)).heap.size = w1.heap.size + 1 := by simp
  have i3 : IsPl QT w.heap.size (w2.alloc (.cells #[.slice (some ⟨gb, 0, none⟩) n c, .bool false, .int .i64 0, .slice none 0 0] 50)) w2.heap.size (footP w2.heap.size (.slice (some ⟨gb, 0, none⟩) n c) (.slice none 0 0)) (spZ n) :=
    IsPl.new (W := w2.alloc (.cells #[.slice (some ⟨gb, 0, none⟩) n c, .bool false, .int .i64 0, .slice none 0 0] 50)) ⟨by omega, h2⟩ rfl (own_mono (own_below o2 ba) (by omega)) (d2.below ba) hb2.size (heap_alloc_new w2 _)
  have iD := i3.below (below_dr _)
  obtain ⟨W3, hW3⟩ : ∃ W3, W3 = w2.alloc (.cells #[.slice (some ⟨gb, 0, none⟩) n c, .bool false, .int .i64 0, .slice none 0 0] 50) := ⟨_, rfl⟩
  rw [← hW3] at iD r03 r53 hb3
  have EM := HEM.out _ _ _ _ iD
  have hnS : ∀ b, b < w1.heap.size + 1 → ¬ footP w2.heap.size (.slice (some ⟨gb, 0, none⟩) n c) (.slice none 0 0) b := by
    rintro b hb (rfl | h | h)
    · have := b2.size; omega
    · simp [Value.ownBlock] at h; omega
    · simp [Value.ownBlock] at h
  have rD5 : W3.drew.heap[w1.heap.size]? = some (.cells #[(.int .i64 l0), (.int .i64 l1), (.int .i64 l2), (.int .i64 l3), (.int .i64 l4), (.int .i64 l5), (.int .i64 l6)] 39 (0, 0)) := r53
  have rD0 : W3.drew.heap[w.heap.size]? = some (.cells #[(.int .i64 0), (.int .i64 0), (.int .i64 0), (.int .i64 0), (.int .i64 0), (.int .i64 0), (.int .i64 0)] 39 (0, 0)) := r03
  have sX := cells7b rD5
  have HID := hid iD; have HB3 := hid (hb3.trans ((below_dr W3).mono hb3.size)); have HRD5 := hid rD5; have HRD0 := hid rD0; have HNS := hid hnS
  have HW3 := hid hW3
  clear o2 d2 b2 hb2 r02 r52 ba hb3 r03 r53 i3 iD rD5 rD0 hnS hW3 HEM HOF HBL
  go_wp2_with fail
  rw [← HW3.out]
  refine wp_region_held_drew (S := fun W1 => W1.cell? ⟨w1.heap.size, 0, none⟩ = some (.int .i64 l0) ∧ W1.cell? ⟨w1.heap.size, 1, none⟩ = some (.int .i64 l1) ∧ W1.cell? ⟨w1.heap.size, 2, none⟩ = some (.int .i64 l2) ∧ W1.cell? ⟨w1.heap.size, 3, none⟩ = some (.int .i64 l3) ∧ W1.cell? ⟨w1.heap.size, 4, none⟩ = some (.int .i64 l4) ∧ W1.cell? ⟨w1.heap.size, 5, none⟩ = some (.int .i64 l5) ∧ W1.cell? ⟨w1.heap.size, 6, none⟩ = some (.int .i64 l6)) (by kernel_rfl) (by exact sX) (fun hHeld => ?_)
  refine wpAnyH_take (i := 0) (oi := ?o0z1) (v := ?v0z1) ?hi0z1 (by kernel_rfl) (by kernel_rfl) ?hr0z1 ?hQ0z1 ?hy0z1 hHeld ?r0z1
  case hi0z1 => (simp only [List.getElem?_toArray, List.getElem?_cons_zero, List.getElem?_cons_succ]; rfl)
  case hr0z1 => kernel_rfl
  case hQ0z1 => exact fun _ _ _ h => h
  case hy0z1 => (refine Or.inl ⟨by rfl, ?_⟩; intro w hSw; (try dsimp only at hSw); go_simp; try with_reducible rfl)
  try simp only [Act.put, List.setIfInBounds_toArray, List.set_cons_zero, List.set_cons_succ]
  refine wpAnyH_take (i := 2) (oi := ?o2z1) (v := ?v2z1) ?hi2z1 (by kernel_rfl) (by kernel_rfl) ?hr2z1 ?hQ2z1 ?hy2z1 hHeld ?r2z1
  case hi2z1 => (simp only [List.getElem?_toArray, List.getElem?_cons_zero, List.getElem?_cons_succ]; rfl)
  case hr2z1 => kernel_rfl
  case hQ2z1 => exact fun _ _ _ h => h
  case hy2z1 => (refine Or.inl ⟨by rfl, ?_⟩; intro w hSw; (try dsimp only at hSw); go_simp; try with_reducible rfl)
  try simp only [Act.put, List.setIfInBounds_toArray, List.set_cons_zero, List.set_cons_succ]
  refine wpAnyH_take (i := 3) (oi := ?o3z1) (v := ?v3z1) ?hi3z1 (by kernel_rfl) (by kernel_rfl) ?hr3z1 ?hQ3z1 ?hy3z1 hHeld ?r3z1
  case hi3z1 => (simp only [List.getElem?_toArray, List.getElem?_cons_zero, List.getElem?_cons_succ]; rfl)
  case hr3z1 => kernel_rfl
  case hQ3z1 => exact fun _ _ _ h => h
  case hy3z1 => (refine Or.inl ⟨by rfl, ?_⟩; intro w hSw; (try dsimp only at hSw); go_simp; try with_reducible rfl)
  try simp only [Act.put, List.setIfInBounds_toArray, List.set_cons_zero, List.set_cons_succ]
  refine wpAnyH_take (i := 4) (oi := ?o4z1) (v := ?v4z1) ?hi4z1 (by kernel_rfl) (by kernel_rfl) ?hr4z1 ?hQ4z1 ?hy4z1 hHeld ?r4z1
  case hi4z1 => (simp only [List.getElem?_toArray, List.getElem?_cons_zero, List.getElem?_cons_succ]; rfl)
  case hr4z1 => kernel_rfl
  case hQ4z1 => exact fun _ _ _ h => h
  case hy4z1 => (refine Or.inl ⟨by rfl, ?_⟩; intro w hSw; (try dsimp only at hSw); go_simp; try with_reducible rfl)
  try simp only [Act.put, List.setIfInBounds_toArray, List.set_cons_zero, List.set_cons_succ]
  refine wpAnyH_take (i := 1) (oi := ?o1z1) (v := ?v1z1) ?hi1z1 (by kernel_rfl) (by kernel_rfl) ?hr1z1 ?hQ1z1 ?hy1z1 hHeld ?r1z1
  case hi1z1 => (simp only [List.getElem?_toArray, List.getElem?_cons_zero, List.getElem?_cons_succ]; rfl)
  case hr1z1 => kernel_rfl
  case hQ1z1 => exact fun _ _ _ h => h
  case hy1z1 => (refine Or.inl ⟨by rfl, ?_⟩; intro w hSw; (try dsimp only at hSw); go_simp; try with_reducible rfl)
  try simp only [Act.put, List.setIfInBounds_toArray, List.set_cons_zero, List.set_cons_succ]
  refine wpAnyH_ready (rs := [5]) (by kernel_rfl) (by simp) (AllReadyH.cons (o := ?o5z1) ?hi5z1 (fun K hK => ?r5z1) AllReadyH.nil)
  case hi5z1 => (simp only [List.getElem?_toArray, List.getElem?_cons_zero, List.getElem?_cons_succ]; rfl)
  go_simp
  refine EM.mono ?_
  rintro e w5 ⟨rfl, S5, i5, k5, h5⟩
  have r5 := (k5.block _ (heap_in HRD5.out) (HNS.out w1.heap.size (by omega))).trans HRD5.out
  have r05 := (k5.block _ (heap_in HRD0.out) (HNS.out w.heap.size (by omega))).trans HRD0.out
  have s5 := cells7b r5
  have I5 := hid i5; have K5 := hid k5; have H5 := hid h5; have R05 := hid r05; have R5 := hid r5
  obtain ⟨m0, m1, m2, m3, m4, m5, m6⟩ := cells7b r05
  have f0 := frow r05 0; have f1 := frow r05 1; have f2 := frow r05 2; have f3 := frow r05 3; have f4 := frow r05 4; have f5 := frow r05 5; have f6 := frow r05 6
  clear EM i5 k5 h5 r5 r05
  refine hK.out _ _ (by exact s5) (fun hHeld => ?_)
  clear hK K
  try simp only [Act.put, List.setIfInBounds_toArray, List.set_cons_zero, List.set_cons_succ]
  refine wpAnyH_take (i := 6) (oi := ?o6z1) (v := ?v6z1) ?hi6z1 (by kernel_rfl) (by kernel_rfl) ?hr6z1 ?hQ6z1 ?hy6z1 hHeld ?r6z1
  case hi6z1 => (simp only [List.getElem?_toArray, List.getElem?_cons_zero, List.getElem?_cons_succ]; rfl)
  case hr6z1 => kernel_rfl
  case hQ6z1 => exact fun _ _ _ h => h
  case hy6z1 => (refine Or.inl ⟨by rfl, ?_⟩; intro w hSw; (try dsimp only at hSw); go_simp; try with_reducible rfl)
  try simp only [Act.put, List.setIfInBounds_toArray, List.set_cons_zero, List.set_cons_succ]
  refine wpAnyH_take (i := 7) (oi := ?o7z1) (v := ?v7z1) ?hi7z1 (by kernel_rfl) (by kernel_rfl) ?hr7z1 ?hQ7z1 ?hy7z1 hHeld ?r7z1
  case hi7z1 => (simp only [List.getElem?_toArray, List.getElem?_cons_zero, List.getElem?_cons_succ]; rfl)
  case hr7z1 => kernel_rfl
  case hQ7z1 => exact fun _ _ _ h => h
  case hy7z1 => (refine Or.inl ⟨by rfl, ?_⟩; intro w hSw; (try dsimp only at hSw); go_simp; try with_reducible rfl)
  try simp only [Act.put, List.setIfInBounds_toArray, List.set_cons_zero, List.set_cons_succ]
  refine wpAnyH_ready (rs := [8]) (by kernel_rfl) (by simp) (AllReadyH.cons (o := ?o8z1) ?hi8z1 (fun K hK => ?r8z1) AllReadyH.nil)
  case hi8z1 => (simp only [List.getElem?_toArray, List.getElem?_cons_zero, List.getElem?_cons_succ]; rfl)
  obtain ⟨x0, xk⟩ := set7 R05.out (.int .i64 l0) (.int .i64 l1) (.int .i64 l2) (.int .i64 l3) (.int .i64 l4) (.int .i64 l5) (.int .i64 l6)
  have s6 := cells7b ((xk.block _ (heap_in R5.out) (fun e => by omega)).trans R5.out)
  have X0 := hid x0; have XK := hid xk
  clear x0 xk
  go_simp
  refine hK.out _ _ (by exact s6) (fun hHeld => ?_)
  clear hK K
  try simp only [Act.put, List.setIfInBounds_toArray, List.set_cons_zero, List.set_cons_succ]
  refine wpAnyH_take (i := 9) (oi := ?o9z1) (v := ?v9z1) ?hi9z1 (by kernel_rfl) (by kernel_rfl) ?hr9z1 ?hQ9z1 ?hy9z1 hHeld ?r9z1
  case hi9z1 => (simp only [List.getElem?_toArray, List.getElem?_cons_zero, List.getElem?_cons_succ]; rfl)
  case hr9z1 => kernel_rfl
  case hQ9z1 => exact fun _ _ _ h => h
  case hy9z1 => (refine Or.inl ⟨by rfl, ?_⟩; intro w hSw; (try dsimp only at hSw); go_simp; try with_reducible rfl)
  try simp only [Act.put, List.setIfInBounds_toArray, List.set_cons_zero, List.set_cons_succ]
  refine wpAnyH_done (by kernel_rfl) ?_ _
  clear sX s5 s6 m0 m1 m2 m3 m4 m5 m6 f0 f1 f2 f3 f4 f5 f6
  have x0 := X0.out
  have xk := XK.out
  have hnB : ∀ b, S5 b → b ≠ w.heap.size := fun b hb e => by
    rcases H5.out b hb with h | h
    · exact HNS.out b (by omega) h
    · have := HB3.out.size; have := heap_in HRD0.out; omega
  have hi6 := I5.out.kpt xk (by rintro b rfl; exact row_not_u8 R05.out (by decide)) (fun b hb e => hnB b hb e)
  have hbF : Below w.heap.size w w5 := belowK HB3.out K5.out (fun b hb => (HID.out.blocks hb).1) HB3.out.size
  have HI6 := hid hi6; have HB6 := hid (belowK hbF xk (fun b hb => by rw [hb]; exact Nat.le_refl _) hbF.size)
  have HX := hid (cells7b x0)
  clear x0 xk hi6 hbF
  go_wp2
  refine bodyPost_ret (v := .tuple #[.pointer (some ⟨w2.heap.size, 0, none⟩), .agg #[(.int .i64 l0), (.int .i64 l1), (.int .i64 l2), (.int .i64 l3), (.int .i64 l4), (.int .i64 l5), (.int .i64 l6)], .bool true]) ?_ rfl ⟨w2.heap.size, S5, rfl, HI6.out, HB6.out⟩
  obtain ⟨q0, q1, q2, q3, q4, q5, q6⟩ := HX.out
  simp [results, Try.results18, go_sem, q0, q1, q2, q3, q4, q5, q6]
end Go.Proofs.Ytahlhdhljjpeoaa

/- The chapter's example (plain); one; what lies beside a space. -/
namespace Go.Proofs.Ytahlhdhljjpeoaa
open Go.RowKit
set_option maxHeartbeats 3200000
set_option maxRecDepth 100000
set_option linter.unusedVariables false
set_option linter.unusedSimpArgs false

def L64 : Lay := ⟨64, 2, 16, 18, 19, 4, 23⟩
theorem ofL64 : ofL 64 = L64 := by decide
theorem L64_right : rightL L64 = true := by decide
/-- A space that answers, of n blocks, with at most k writes. -/
structure Dn (d : Pl) (n k : Nat) : Prop where
  ends : d.ends = false
  left : -10000000 ≤ d.left
  did : d.did ≤ k
  len : d.b.length = n
theorem Dn.put {d : Pl} {n k : Nat} (h : Dn d n k) (m : Nat) (x : List UInt8) : Dn (d.put m x) n (k + 1) := ⟨h.ends, h.left, Nat.succ_le_succ h.did, by simp [Pl.put, h.len]⟩
theorem Dn.mono {d : Pl} {n k j : Nat} (h : Dn d n k) (hj : k ≤ j) : Dn d n j := ⟨h.ends, h.left, Nat.le_trans h.did hj, h.len⟩
theorem spD_dn (n : Nat) : Dn (spD n) n (1 + (ofL n).ib.toNat) := ⟨rfl, by simp [spD], Nat.le_refl _, by simp [spD]⟩
theorem Dn.bl {d : Pl} {k : Nat} (h : Dn d 64 k) : rightL L64 = true → L64.bl = (d.b.length : Int) := fun _ => by rw [h.len]; rfl
/-- The truths of the emptied space of 64 blocks. -/
def u64 : List Bool := emU 64 0 23
theorem sp64 : Sp (spD 64) L64 u64 (fun _ => zeros 4096) := spD_sp 64 (by omega) (by omega)
theorem dn64 : Dn (spD 64) 64 5 := spD_dn 64
/-- A new inode, where the first is unused. -/
theorem Sp.new1 {d : Pl} {l : Lay} {u : List Bool} {I : Nat → List UInt8} (h : Sp d l u I) (he : d.ends = false) (h0 : gerrInd (slotB (I 0) 0) = 0 ∧ (gotInd (slotB (I 0) 0)).k = 0) (x : Ind) (hx : niOk x = true) :
    newP d l x = (d.put l.ino.toNat (splice (I 0) 0 (putInd x)), 1, 0) := by
  obtain ⟨ht, hs⟩ := Pl.off he
  have hb := h.bd
  obtain ⟨m, hm⟩ : ∃ m, l.ib.toNat = m + 1 := ⟨l.ib.toNat - 1, by omega⟩
  have hi := h.ino 0 (by omega)
  have hsc : scanB (I 0) 64 0 = (0, 0) := scanB_at (I 0) 0 (by omega) (fun j hj => by omega) (fun _ => h0) 64 0 rfl (Nat.le_refl _)
  unfold newP
  rw [if_pos h.R, if_pos hx, hm]
  unfold newGo
  rw [hs, if_neg (by decide), hi, hsc, ht, if_pos rfl, if_pos (by decide), hs, if_neg (by decide)]
  simp [ht]
theorem alc_some {d : Pl} {l : Lay} {u u' : List Bool} {I : Nat → List UInt8} {o : List (Nat × Nat)} (h : Sp d l u I) (he : d.ends = false) (n : Nat) (h1 : 1 ≤ n) (h2 : n ≤ u.length) (hg : allocGo n u n [] = some (u', o)) :
    alcP d l n = (d.put l.bi.toNat (wrB u'), o, 0) ∧ Sp (d.put l.bi.toNat (wrB u')) l u' I := by
  rcases h.alc he n h1 h2 with ⟨e, _⟩ | ⟨u2, o2, e, e2, e3⟩
  · rw [hg] at e; cases e
  · rw [hg] at e
    simp only [Option.some.injEq, Prod.mk.injEq] at e
    obtain ⟨rfl, rfl⟩ := e
    exact ⟨e2, e3⟩
theorem fre_yes {d : Pl} {l : Lay} {u : List Bool} {I : Nat → List UInt8} (h : Sp d l u I) (he : d.ends = false) (st ct : Nat) (h1 : l.da.toNat ≤ st) (h2 : 1 ≤ ct) (h3 : st + ct ≤ u.length) (hf : frB u st ct = false) :
    freP d l st ct = (d.put l.bi.toNat (wrB (setU u st ct false)), 0) ∧ Sp (d.put l.bi.toNat (wrB (setU u st ct false))) l (setU u st ct false) I := by
  rcases h.fre he st ct h1 h2 h3 with ⟨e, _⟩ | ⟨_, e2, e3⟩
  · rw [hf] at e; cases e
  · exact ⟨e2, e3⟩
theorem awake_plain : ∃ d1 d2 d3 d4 d5 : Pl, lefP (spD 64) L64 = (spD 64, 41, 256, 0) ∧ alcP (spD 64) L64 3 = (d1, [(23, 3)], 0) ∧ alcP d1 L64 5 = (d2, [(26, 5)], 0) ∧ freP d2 L64 23 2 = (d3, 0) ∧ alcP d3 L64 2 = (d4, [(23, 2)], 0) ∧
    newP d4 L64 ⟨1, 1, 0, 0, []⟩ = (d5, 1, 0) ∧ Dn d1 64 6 ∧ Dn d2 64 7 ∧ Dn d3 64 8 ∧ Dn d4 64 9 := by
  have z : gerrInd (slotB (zeros 4096) 0) = 0 ∧ (gotInd (slotB (zeros 4096) 0)).k = 0 := by
    rw [slot_zeros 0 (by omega), got_zeros.1, got_zeros.2]
    exact ⟨rfl, rfl⟩
  have a1 : allocGo 3 u64 3 [] = some (setU u64 23 3 true, [(23, 3)]) := by decide +kernel
  have a2 : allocGo 5 (setU u64 23 3 true) 5 [] = some (setU (setU u64 23 3 true) 26 5 true, [(26, 5)]) := by decide +kernel
  have a3 : frB (setU (setU u64 23 3 true) 26 5 true) 23 2 = false := by decide +kernel
  have a4 : allocGo 2 (setU (setU (setU u64 23 3 true) 26 5 true) 23 2 false) 2 [] = some (setU (setU (setU (setU u64 23 3 true) 26 5 true) 23 2 false) 23 2 true, [(23, 2)]) := by decide +kernel
  have l1 : freeC u64 = 41 := by decide +kernel
  have lu : u64.length = 64 := by decide
  obtain ⟨b1, s1⟩ := alc_some sp64 rfl 3 (by omega) (by omega) a1
  obtain ⟨b2, s2⟩ := alc_some s1 rfl 5 (by omega) (by rw [setU_length]; omega) a2
  obtain ⟨b3, s3⟩ := fre_yes s2 rfl 23 2 (by decide) (by omega) (by rw [setU_length, setU_length]; omega) a3
  obtain ⟨b4, s4⟩ := alc_some s3 rfl 2 (by omega) (by rw [setU_length, setU_length, setU_length]; omega) a4
  have b5 := s4.new1 rfl z ⟨1, 1, 0, 0, []⟩ (by decide)
  refine ⟨_, _, _, _, _, ?_, b1, b2, b3, b4, b5, dn64.put _ _, (dn64.put _ _).put _ _, ((dn64.put _ _).put _ _).put _ _, (((dn64.put _ _).put _ _).put _ _).put _ _⟩
  rw [sp64.lefZ rfl, l1]
  rfl
/-- The blocks of a space are of three kinds. -/
theorem IsPl.tys {Q : Nat → Prop} {base : Nat} {w : World} {P : Nat} {S : Nat → Prop} {d : Pl} (h : IsPl Q base w P S d) {b : Nat} (hb : S b) : ∃ cs t, w.heap[b]? = some (.cells cs t (0, 0)) ∧ (t = 50 ∨ t = 61 ∨ t = 3) := by
  obtain ⟨vb, vd, rfl, hP, hr, hp, ho⟩ := h
  rcases hb with rfl | hb | hb
  · exact ⟨_, _, hr, .inl rfl⟩
  · obtain ⟨xs, gs, cs, _, h1, _⟩ := hp.b
    obtain ⟨_, _, cs, h4⟩ := own_row h1 hb
    exact ⟨cs, _, h4, .inr (.inl rfl)⟩
  · obtain ⟨xs, A, c, _, h1⟩ := hp.d
    obtain ⟨_, _, cs, h4⟩ := own_row h1 hb
    exact ⟨cs, _, h4, .inr (.inr rfl)⟩
theorem IsPl.notRow {Q : Nat → Prop} {base : Nat} {w : World} {P : Nat} {S : Nat → Prop} {d : Pl} (h : IsPl Q base w P S d) {b : Nat} {cs : Array Value} {t : TypeId} {f : Nat × Nat} (hr : w.heap[b]? = some (.cells cs t f)) (h1 : t ≠ 50) (h2 : t ≠ 61) (h3 : t ≠ 3) : ¬ S b := fun hb => by
  obtain ⟨cs', t', hr', ht⟩ := h.tys hb
  rw [hr] at hr'
  simp only [Option.some.injEq, Obj.cells.injEq] at hr'
  obtain ⟨_, rfl, _⟩ := hr'
  rcases ht with e | e | e
  · exact h1 e
  · exact h2 e
  · exact h3 e
theorem own_kptS {Q : Nat → Prop} {base : Nat} {w w' : World} {P : Nat} {S : Nat → Prop} {d : Pl} (h : IsPl Q base w P S d) {b' n size : Nat} {e : TypeId} {v : Value} {xs : List Value} (ho : w.ownsRow b' e size v n xs) (k : Kpt S w w')
    (h1 : e ≠ 50) (h2 : e ≠ 61) (h3 : e ≠ 3) : w'.ownsRow b' e size v n xs :=
  own_kpt ho k (fun b hb => by
    obtain ⟨_, _, cs, h4⟩ := own_row ho hb
    exact h.notRow h4 h1 h2 h3)
theorem OwnX.kptS {Q : Nat → Prop} {base : Nat} {w w' : World} {P : Nat} {S : Nat → Prop} {d : Pl} (h : IsPl Q base w P S d) {b' c : Nat} {A : Option Addr} {l : List Ext} (ho : OwnX b' w A c l) (k : Kpt S w w') : OwnX b' w' A c l :=
  own_kptS h ho k (by decide) (by decide) (by decide)
theorem row_kptS {Q : Nat → Prop} {base : Nat} {w w' : World} {P : Nat} {S : Nat → Prop} {d : Pl} (h : IsPl Q base w P S d) {b : Nat} {cs : Array Value} {t : TypeId} (hr : w.heap[b]? = some (.cells cs t (0, 0))) (k : Kpt S w w')
    (h1 : t ≠ 50) (h2 : t ≠ 61) (h3 : t ≠ 3) : w'.heap[b]? = some (.cells cs t (0, 0)) :=
  (k.block b (heap_in hr) (h.notRow hr h1 h2 h3)).trans hr
theorem below_kptS {Q : Nat → Prop} {w0 w w' : World} {P : Nat} {S : Nat → Prop} {d : Pl} (h : IsPl Q w0.heap.size w P S d) (b : Below w0.heap.size w0 w) (k : Kpt S w w') : Below w0.heap.size w0 w' :=
  belowK b k (fun x hx => (h.blocks hx).1) b.size
theorem one_yes (w : World) (a : Option Addr) (c : Nat) (st ct : Int) (hr : RdX w a [⟨0, st, ct⟩]) :
    Calls Try.prog 23 #[.slice a 1 c, .int .i64 st, .int .i64 ct] w fun e w' => e = .returned (.bool true) ∧ w = w' := by
  obtain ⟨b, off, rfl, hc⟩ := hr.at_ (by simp)
  obtain ⟨c0, c1, c2⟩ := hc 0 (by simp)
  have e : xat [(⟨0, st, ct⟩ : Ext)] 0 = ⟨0, st, ct⟩ := rfl
  rw [e] at c0 c1 c2
  clear hc hr e
  simp only [Nat.zero_mul, Nat.add_zero] at c0 c1 c2
  go_enter Try.func23, Try.ntmps23
  go_wp2
  go_ret
  exact ⟨rfl, rfl⟩
end Go.Proofs.Ytahlhdhljjpeoaa

/- law24: awake (printed by gen24n.py). -/
namespace Go.Proofs.Ytahlhdhljjpeoaa
open Go.RowKit
set_option maxHeartbeats 3200000
set_option maxRecDepth 100000
set_option linter.unusedVariables false
set_option linter.unusedSimpArgs false

theorem NewInode_is {base : Nat} (w : World) (P : Nat) {S : Nat → Prop} {d : Pl} (h : IsPl QT base w P S d) (hl : -10000000 ≤ d.left) (hd : d.did ≤ 100000) (l : Lay) (hbl : rightL l = true → l.bl = (d.b.length : Int)) (x : Ind) (xa : Option Addr) (xc : Nat) (hi : x.in_) (hr : RdX w xa x.dir) :
    Calls Try.prog 25 #[spV P, l.val, x.val xa xc] w fun e w' => e = .returned (.tuple #[.int .i64 (newP d l x).2.1, .int .i64 (newP d l x).2.2]) ∧ TurnP QT base w P S w' (newP d l x).1 := by
  cases hR : rightL l with
  | false =>
    have e : newP d l x = (d, 0, 2) := by simp [newP, hR]
    rw [e]
    exact NewInode_wrong w P h l hR x xa xc
  | true =>
    cases hn : niOk x with
    | false =>
      have e : newP d l x = (d, 0, 2) := by simp [newP, hR, hn]
      rw [e]
      exact NewInode_no w P h l hR x xa xc hi hr hn
    | true => exact NewInode_yes w P h hl hd l (hbl hR) hR x xa xc hi hr hn
theorem SetInode_is {base : Nat} (w : World) (P : Nat) {S : Nat → Prop} {d : Pl} (h : IsPl QT base w P S d) (hl : -10000000 ≤ d.left) (hd : d.did ≤ 100000) (l : Lay) (hbl : rightL l = true → l.bl = (d.b.length : Int)) (i : Int) (hii : -9223372036854775808 ≤ i ∧ i ≤ 9223372036854775807) (x : Ind) (xa : Option Addr) (xc : Nat) (hi : x.in_) (hr : RdX w xa x.dir) :
    Calls Try.prog 26 #[spV P, l.val, .int .i64 i, x.val xa xc] w fun e w' => e = .returned (.int .i64 (seiP d l i x).2) ∧ TurnP QT base w P S w' (seiP d l i x).1 := by
  cases hR : rightL l with
  | false =>
    have e : seiP d l i x = (d, 2) := by simp [seiP, hR]
    rw [e]
    exact SetInode_wrong w P h l hR i x xa xc
  | true =>
    cases hn : okInd x with
    | false =>
      have e : seiP d l i x = (d, 2) := by simp [seiP, hR, hn]
      rw [e]
      exact SetInode_no w P h l hR i x xa xc hi hr hn
    | true => exact SetInode_yes w P h hl hd l (hbl hR) hR i hii x xa xc hi hr hn
theorem own_one {base : Nat} {w : World} {A : Option Addr} {c a b : Nat} (h : OwnX base w A c (exL [(a, b)])) : RdX w A [⟨0, (a : Int), (b : Int)⟩] := h.rd
theorem awake24_any (w : World) : Calls Try.prog 22 #[] w fun e w' => e = .returned (.bool true) ∧ Below w.heap.size w w' := by
  obtain ⟨d1, d2, d3, d4, d5, e0, e1, e2, e3, e4, e5, n1, n2, n3, n4⟩ := awake_plain
  have SPC := fun W => space_any W 64 (by omega) (by omega)
  simp only [show ((64 : Nat) : Int) = 64 from rfl, ofL64, L64, Lay.val] at SPC
  have C0 := fun (base : Nat) (W : World) (P : Nat) (S : Nat → Prop) (hW : IsPl QT base W P S (spD 64)) => Left_is W P hW dn64.left L64 dn64.bl
  have C1 := fun (base : Nat) (W : World) (P : Nat) (S : Nat → Prop) (hW : IsPl QT base W P S (spD 64)) => Alloc_is W P hW dn64.left (Nat.le_trans dn64.did (by decide)) L64 dn64.bl 3
  have C2 := fun (base : Nat) (W : World) (P : Nat) (S : Nat → Prop) (hW : IsPl QT base W P S d1) => Alloc_is W P hW n1.left (Nat.le_trans n1.did (by decide)) L64 n1.bl 5
  have C3 := fun (base : Nat) (W : World) (P : Nat) (S : Nat → Prop) (hW : IsPl QT base W P S d2) => Free_is W P hW n2.left (Nat.le_trans n2.did (by decide)) L64 n2.bl 23 2 (by decide) (by decide)
  have C4 := fun (base : Nat) (W : World) (P : Nat) (S : Nat → Prop) (hW : IsPl QT base W P S d3) => Alloc_is W P hW n3.left (Nat.le_trans n3.did (by decide)) L64 n3.bl 2
  have hin : (⟨1, 1, 0, 0, []⟩ : Ind).in_ := ⟨by decide, by decide, by decide, by decide, by decide, fun k hk => absurd hk (Nat.not_lt_zero k)⟩
  have C5 := fun (base : Nat) (W : World) (P : Nat) (S : Nat → Prop) (hW : IsPl QT base W P S d4) => NewInode_is W P hW n4.left (Nat.le_trans n4.did (by decide)) L64 n4.bl ⟨1, 1, 0, 0, []⟩ none 0 hin (RdX.nil _ _)
  simp only [AllocPost, e0, e1, e2, e3, e4, e5, spV, Lay.val, Ind.val, indCells, List.length_nil] at C0 C1 C2 C3 C4 C5
  simp only [L64] at C0 C1 C2 C3 C4 C5
  clear e0 e1 e2 e3 e4 e5 n1 n2 n3 n4 hin
  have HC0 := hid C0; have HC1 := hid C1; have HC2 := hid C2; have HC3 := hid C3; have HC4 := hid C4; have HC5 := hid C5
  clear C0 C1 C2 C3 C4 C5
  generalize spD 64 = d0 at *
  go_enter Try.func22, Try.ntmps22
  go_wp2_with fail
  refine (SPC _).mono ?_
  rintro e v0 ⟨P, S0, rfl, i, b⟩
  clear SPC
  have bL : Below v0.heap.size v0 (v0.alloc (.cells #[.int .i64 64, .int .i64 2, .int .i64 16, .int .i64 18, .int .i64 19, .int .i64 4, .int .i64 23] 39)) := (Below.refl _ _).alloc (Nat.le_refl _) _
  have L0 := hid (heap_alloc_new v0 (.cells #[.int .i64 64, .int .i64 2, .int .i64 16, .int .i64 18, .int .i64 19, .int .i64 4, .int .i64 23] 39))
  obtain ⟨w0, hw0⟩ : ∃ w0, w0 = v0.alloc (.cells #[.int .i64 64, .int .i64 2, .int .i64 16, .int .i64 18, .int .i64 19, .int .i64 4, .int .i64 23] 39) := ⟨_, rfl⟩
  have I0 := hid (i.below bL)
  have B0 := hid (b.trans (bL.mono b.size))
  rw [← hw0] at I0 B0 L0
  have HW0 := hid hw0
  clear i b bL hw0
  obtain ⟨y0, y1, y2, y3, y4, y5, y6⟩ := cells7b L0.out
  rw [HW0.out] at y0 y1 y2 y3 y4 y5 y6
  have CC := HC0.out _ w0 _ _ I0.out
  rw [HW0.out] at CC
  go_wp2_with fail
  refine CC.mono ?_
  rw [← HW0.out]
  rintro e w1 ⟨rfl, i, kk⟩
  have L1 := hid (row_kptS I0.out L0.out kk (by decide) (by decide) (by decide))
  have B1 := hid (below_kptS I0.out B0.out kk)
  have I1 := hid i
  clear i kk CC HC0 y0 y1 y2 y3 y4 y5 y6 I0 B0 L0
  clear HW0
  obtain ⟨y0, y1, y2, y3, y4, y5, y6⟩ := cells7b L1.out
  have CC := HC1.out _ w1 _ _ I1.out
  go_wp2_with fail
  refine CC.mono ?_
  rintro e w2 ⟨⟨A1, N1, c1, rfl, rfl, o⟩, S1, i, kk, hs⟩
  have X2 := hid o; clear o
  have L2 := hid (row_kptS I1.out L1.out kk (by decide) (by decide) (by decide))
  have B2 := hid (below_kptS I1.out B1.out kk)
  have I2 := hid i
  clear i kk hs CC HC1 y0 y1 y2 y3 y4 y5 y6 I1 B1 L1
  obtain ⟨y0, y1, y2, y3, y4, y5, y6⟩ := cells7b L2.out
  have CC := HC2.out _ w2 _ _ I2.out
  go_wp2_with fail
  refine CC.mono ?_
  rintro e w3 ⟨⟨A2, N2, c2, rfl, rfl, o⟩, S2, i, kk, hs⟩
  have Y3 := hid o; clear o
  have L3 := hid (row_kptS I2.out L2.out kk (by decide) (by decide) (by decide))
  have X3 := hid (X2.out.kptS I2.out kk)
  have B3 := hid (below_kptS I2.out B2.out kk)
  have I3 := hid i
  clear i kk hs CC HC2 y0 y1 y2 y3 y4 y5 y6 I2 B2 L2 X2
  obtain ⟨y0, y1, y2, y3, y4, y5, y6⟩ := cells7b L3.out
  have CC := HC3.out _ w3 _ _ I3.out
  go_wp2_with fail
  refine CC.mono ?_
  rintro e w4 ⟨rfl, S3, i, kk, hs⟩
  have L4 := hid (row_kptS I3.out L3.out kk (by decide) (by decide) (by decide))
  have X4 := hid (X3.out.kptS I3.out kk)
  have Y4 := hid (Y3.out.kptS I3.out kk)
  have B4 := hid (below_kptS I3.out B3.out kk)
  have I4 := hid i
  clear i kk hs CC HC3 y0 y1 y2 y3 y4 y5 y6 I3 B3 L3 X3 Y3
  obtain ⟨y0, y1, y2, y3, y4, y5, y6⟩ := cells7b L4.out
  have CC := HC4.out _ w4 _ _ I4.out
  go_wp2_with fail
  refine CC.mono ?_
  rintro e w5 ⟨⟨A4, N4, c4, rfl, rfl, o⟩, S4, i, kk, hs⟩
  have Z5 := hid o; clear o
  have L5 := hid (row_kptS I4.out L4.out kk (by decide) (by decide) (by decide))
  have X5 := hid (X4.out.kptS I4.out kk)
  have Y5 := hid (Y4.out.kptS I4.out kk)
  have B5 := hid (below_kptS I4.out B4.out kk)
  have I5 := hid i
  clear i kk hs CC HC4 y0 y1 y2 y3 y4 y5 y6 I4 B4 L4 X4 Y4
  obtain ⟨y0, y1, y2, y3, y4, y5, y6⟩ := cells7b L5.out
  have CC := HC5.out _ w5 _ _ I5.out
  go_wp2_with fail
  refine CC.mono ?_
  rintro e w6 ⟨rfl, S5, i, kk, hs⟩
  have L6 := hid (row_kptS I5.out L5.out kk (by decide) (by decide) (by decide))
  have X6 := hid (X5.out.kptS I5.out kk)
  have Y6 := hid (Y5.out.kptS I5.out kk)
  have Z6 := hid (Z5.out.kptS I5.out kk)
  have B6 := hid (below_kptS I5.out B5.out kk)
  have I6 := hid i
  clear i kk hs CC HC5 y0 y1 y2 y3 y4 y5 y6 I5 B5 L5 X5 Y5 Z5
  have O1 := one_yes w6 A1 c1 _ _ (own_one X6.out)
  have O2 := one_yes w6 A2 c2 _ _ (own_one Y6.out)
  have O3 := one_yes w6 A4 c4 _ _ (own_one Z6.out)
  simp only [show ((23 : Nat) : Int) = 23 from rfl, show ((26 : Nat) : Int) = 26 from rfl, show ((3 : Nat) : Int) = 3 from rfl, show ((5 : Nat) : Int) = 5 from rfl, show ((2 : Nat) : Int) = 2 from rfl] at O1 O2 O3
  go_wp2_with fail
  refine O1.mono ?_
  rintro e w' ⟨rfl, rfl⟩
  go_wp2_with fail
  refine O2.mono ?_
  rintro e w' ⟨rfl, rfl⟩
  go_wp2_with fail
  refine O3.mono ?_
  rintro e w' ⟨rfl, rfl⟩
  go_wp2
  go_ret
  exact ⟨rfl, B6.out⟩
end Go.Proofs.Ytahlhdhljjpeoaa

/- Inodes of a space whose bits and inodes are right (plain). -/
namespace Go.Proofs.Ytahlhdhljjpeoaa
open Go.RowKit
set_option maxHeartbeats 1000000
set_option maxRecDepth 100000
set_option linter.unusedVariables false
set_option linter.unusedSimpArgs false

theorem bat_extI {l r : List UInt8} (h : l.length = r.length) (h2 : ∀ k, k < l.length → bat l k = bat r k) : l = r := bat_extN h h2
theorem bat_slot (b : List UInt8) (j k : Nat) (hk : k < 64) : bat (slotB b j) k = bat b (j * 64 + k) := by
  unfold slotB bat
  rw [List.getD_eq_getElem?_getD, List.getD_eq_getElem?_getD, List.getElem?_take, if_pos hk, List.getElem?_drop]
theorem bat_splice (l r : List UInt8) (off k : Nat) (h : off + r.length ≤ l.length) : bat (splice l off r) k = if off ≤ k ∧ k < off + r.length then bat r (k - off) else bat l k := by
  unfold splice bat
  rw [List.getD_eq_getElem?_getD]
  by_cases h1 : k < off
  · rw [List.getElem?_append_left (by simp; omega), List.getElem?_take, if_pos h1, if_neg (by omega), List.getD_eq_getElem?_getD]
  · rw [List.getElem?_append_right (by simp; omega), List.length_take, Nat.min_eq_left (by omega)]
    by_cases h2 : k < off + r.length
    · rw [List.getElem?_append_left (by omega), if_pos (by omega), List.getD_eq_getElem?_getD]
    · rw [List.getElem?_append_right (by omega), List.getElem?_drop, if_neg (by omega), List.getD_eq_getElem?_getD, show off + r.length + (k - off - r.length) = k by omega]
theorem slot_splice (b own : List UInt8) (j i : Nat) (hb : b.length = 4096) (ho : own.length = 64) (hj : j < 64) (hi : i < 64) : slotB (splice b (j * 64) own) i = if i = j then own else slotB b i := by
  have hl : (splice b (j * 64) own).length = 4096 := by rw [splice_lengthS _ _ _ (by omega), hb]
  by_cases e : i = j
  · subst e
    rw [if_pos rfl]
    refine bat_extI (by rw [slotB_length _ _ hl hi, ho]) fun k hk => ?_
    rw [slotB_length _ _ hl hi] at hk
    rw [bat_slot _ _ _ hk, bat_splice _ _ _ _ (by omega), if_pos (by omega), Nat.add_sub_cancel_left]
  · rw [if_neg e]
    refine bat_extI (by rw [slotB_length _ _ hl hi, slotB_length _ _ hb hi]) fun k hk => ?_
    rw [slotB_length _ _ hl hi] at hk
    rw [bat_slot _ _ _ hk, bat_slot _ _ _ hk, bat_splice _ _ _ _ (by omega), if_neg (by omega)]
theorem Sp.lenI {d : Pl} {l : Lay} {u : List Bool} {I : Nat → List UInt8} (h : Sp d l u I) (ho : d.ok) (k : Nat) (hk : k < l.ib.toNat) : (I k).length = 4096 := by
  have hb := h.bd
  have hl := h.len
  rw [← h.ino k hk, List.getD_eq_getElem?_getD, List.getElem?_eq_getElem (by omega)]
  exact ho.b4 _ (List.getElem_mem (by omega))
theorem Sp.inoOk {d : Pl} {l : Lay} {u : List Bool} {I : Nat → List UInt8} (h : Sp d l u I) (i : Nat) (h1 : 1 ≤ i) (h2 : i ≤ 64 * l.ib.toNat) :
    inoOk l i = true ∧ inoB l i = ((l.ino.toNat + (i - 1) / 64 : Nat) : Int) ∧ inoA l i = (((i - 1) % 64 * 64 : Nat) : Int) ∧ (i - 1) / 64 < l.ib.toNat := by
  have hb := h.bd
  have hin := right_in h.R
  have hok : Go.Proofs.Ytahlhdhljjpeoaa.inoOk l (i : Int) = true := by
    unfold Go.Proofs.Ytahlhdhljjpeoaa.inoOk
    rw [h.R, Bool.true_and]
    exact decide_eq_true (by omega)
  obtain ⟨a, b, c⟩ := ino_yes hok
  exact ⟨hok, by rw [a]; omega, by rw [b]; omega, by omega⟩
/-- Where an inode lies, and what is read there: whatever the space answers. -/
theorem Sp.whG {d : Pl} {l : Lay} {u : List Bool} {I : Nat → List UInt8} (h : Sp d l u I) (i : Nat) (h1 : 1 ≤ i) (h2 : i ≤ 64 * l.ib.toNat) :
    whE d l i = (if d.spent = true then 4 else 0) ∧ whD d l i = d.tick ∧ (d.spent = false → whB d l i = I ((i - 1) / 64)) ∧ (d.spent = false → inPart d l i = slotB (I ((i - 1) / 64)) ((i - 1) % 64)) := by
  obtain ⟨hok, hB, hA, hk⟩ := h.inoOk i h1 h2
  have hb := h.bd
  have hl := h.len
  have hin : d.inB (inoB l i) = true := by
    unfold Pl.inB
    exact decide_eq_true (by omega)
  have w3 : d.spent = false → whB d l i = I ((i - 1) / 64) := fun hs => by
    unfold whB Pl.rdB
    rw [if_pos hok, hs, if_neg (by decide), if_pos hin, hB, Int.toNat_natCast]
    exact h.ino _ hk
  refine ⟨?_, by unfold whD; rw [if_pos hok], w3, fun hs => ?_⟩
  · unfold whE Pl.rdE
    rw [if_pos hok, if_pos hin]
  · unfold inPart
    rw [w3 hs, hA, Int.toNat_natCast]
    rfl
/-- The inodes then. -/
def setI (I : Nat → List UInt8) (s : Nat) (own : List UInt8) : Nat → List UInt8 := upd I (s / 64) (splice (I (s / 64)) (s % 64 * 64) own)
def slI (I : Nat → List UInt8) (s : Nat) : List UInt8 := slotB (I (s / 64)) (s % 64)
theorem slI_set (I : Nat → List UInt8) (s t : Nat) (own : List UInt8) (hI : (I (s / 64)).length = 4096) (ho : own.length = 64) : slI (setI I s own) t = if t = s then own else slI I t := by
  unfold slI setI upd
  by_cases e : t / 64 = s / 64
  · rw [if_pos e, slot_splice _ _ _ _ hI ho (by omega) (by omega)]
    by_cases e2 : t % 64 = s % 64
    · rw [if_pos e2, if_pos (by omega)]
    · rw [if_neg e2, if_neg (by omega), e]
  · rw [if_neg e, if_neg (by intro h; rw [h] at e; exact e rfl)]
theorem Sp.seiG {d : Pl} {l : Lay} {u : List Bool} {I : Nat → List UInt8} (h : Sp d l u I) (i : Nat) (h1 : 1 ≤ i) (h2 : i ≤ 64 * l.ib.toNat) (x : Ind) (hx : okInd x = true) :
    seiP d l i x = (if d.spent = true then (d.tick, 4) else if d.tick.spent = true then (d.tick.tick, 4) else (d.tick.tick.put (l.ino.toNat + (i - 1) / 64) (splice (I ((i - 1) / 64)) ((i - 1) % 64 * 64) (putInd x)), 0)) := by
  obtain ⟨hok, hB, hA, hk⟩ := h.inoOk i h1 h2
  obtain ⟨g1, g2, g3, g4⟩ := h.whG i h1 h2
  unfold seiP
  rw [if_pos h.R, if_pos hx, g1, g2, hB, hA, Int.toNat_natCast, Int.toNat_natCast]
  cases hs : d.spent with
  | true => rfl
  | false => rw [g3 hs]; rfl
theorem Sp.putS {d : Pl} {l : Lay} {u : List Bool} {I : Nat → List UInt8} (h : Sp d l u I) (s : Nat) (h2 : s < 64 * l.ib.toNat) (own : List UInt8) : Sp (d.put (l.ino.toNat + s / 64) (splice (I (s / 64)) (s % 64 * 64) own)) l u (setI I s own) :=
  h.putIno (s / 64) (by omega) _
/-- All inodes are right, as one row. -/
def OkS (I : Nat → List UInt8) (n : Nat) : Prop := ∀ s, s < n → gerrInd (slI I s) = 0
theorem OkS.toI {I : Nat → List UInt8} {ib : Nat} (h : OkS I (64 * ib)) : OkI I ib := fun k hk j hj => by
  have := h (k * 64 + j) (by omega)
  unfold slI at this
  rwa [show (k * 64 + j) / 64 = k by omega, show (k * 64 + j) % 64 = j by omega] at this
theorem OkS.set {I : Nat → List UInt8} {n s : Nat} {own : List UInt8} (h : OkS I n) (hI : (I (s / 64)).length = 4096) (ho : own.length = 64) (hg : gerrInd own = 0) : OkS (setI I s own) n := fun t ht => by
  rw [slI_set _ _ _ _ hI ho]
  split
  · exact hg
  · exact h t ht
theorem okS_zeros (n : Nat) : OkS (fun _ => zeros 4096) n := fun s hs => by
  unfold slI
  rw [slot_zeros _ (by omega)]
  exact got_zeros.1
/-- A new inode lies where the first unused was. -/
theorem newGo_at (own : List UInt8) (l : Lay) (d : Pl) (I : Nat → List UInt8) (s : Nat) (hs : d.spent = false) (he : d.ends = false ∨ s < 64) (hI : ∀ k, k < l.ib.toNat → d.b.getD (l.ino.toNat + k) [] = I k) (h1 : ∀ t, t < s → gerrInd (slI I t) = 0 ∧ (gotInd (slI I t)).k ≠ 0) (h2 : gerrInd (slI I s) = 0 ∧ (gotInd (slI I s)).k = 0) :
    ∀ (m k : Nat), k + m = l.ib.toNat → k * 64 ≤ s → s < 64 * l.ib.toNat → newGo own l.ino.toNat m k d = if d.tick.spent = true then (d.tick.tick, 0, 4) else (d.tick.tick.put (l.ino.toNat + s / 64) (splice (I (s / 64)) (s % 64 * 64) own), ((s + 1 : Nat) : Int), 0)
  | 0, k, hk, h3, h4 => by omega
  | m + 1, k, hk, h3, h4 => by
    unfold newGo
    rw [hs, if_neg (by decide), hI k (by omega)]
    have hsl : ∀ j, j < 64 → slotB (I k) j = slI I (k * 64 + j) := fun j hj => by
      unfold slI
      rw [show (k * 64 + j) / 64 = k by omega, show (k * 64 + j) % 64 = j by omega]
    by_cases hlt : s < (k + 1) * 64
    · have hsc : scanB (I k) 64 0 = (s - k * 64, 0) := scanB_at (I k) (s - k * 64) (by omega) (fun j hj => by rw [hsl j (by omega)]; exact h1 _ (by omega)) (fun h => by rw [hsl _ h, show k * 64 + (s - k * 64) = s by omega]; exact h2) 64 0 rfl (by omega)
      rw [hsc, if_pos rfl, if_pos (by simp only; omega)]
      have e1 : s / 64 = k := by omega
      have e2 : s % 64 = s - k * 64 := by omega
      rw [e1, e2]
      simp only
      rw [show k * 64 + (s - k * 64) + 1 = s + 1 by omega]
    · have hsc : scanB (I k) 64 0 = (64, 0) := scanB_at (I k) 64 (by omega) (fun j hj => by rw [hsl j hj]; exact h1 _ (by omega)) (fun h => by omega) 64 0 rfl (by omega)
      have hoff : d.ends = false := by
        rcases he with h | h
        · exact h
        · omega
      rw [hsc, if_pos rfl, if_neg (by decide), (Pl.off hoff).1]
      rw [newGo_at own l d I s hs he hI h1 h2 m (k + 1) (by omega) (by omega) h4]
      simp only [(Pl.off hoff).1]
theorem Sp.newAt {d : Pl} {l : Lay} {u : List Bool} {I : Nat → List UInt8} (h : Sp d l u I) (hs : d.spent = false) (s : Nat) (he : d.ends = false ∨ s < 64) (h4 : s < 64 * l.ib.toNat) (h1 : ∀ t, t < s → gerrInd (slI I t) = 0 ∧ (gotInd (slI I t)).k ≠ 0) (h2 : gerrInd (slI I s) = 0 ∧ (gotInd (slI I s)).k = 0) (x : Ind) (hx : niOk x = true) :
    newP d l x = if d.tick.spent = true then (d.tick.tick, 0, 4) else (d.tick.tick.put (l.ino.toNat + s / 64) (splice (I (s / 64)) (s % 64 * 64) (putInd x)), ((s + 1 : Nat) : Int), 0) := by
  unfold newP
  rw [if_pos h.R, if_pos hx]
  exact newGo_at _ l d I s hs he h.ino h1 h2 _ 0 (by omega) (by omega) h4
end Go.Proofs.Ytahlhdhljjpeoaa
