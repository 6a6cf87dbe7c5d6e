/- The document's Right (printed by gen06h.py). -/
import Derived.Test.YtknhfaplddgnlaaRecO
namespace Go.Proofs.Ytknhfaplddgnlaa
open Go.RowKit
set_option maxHeartbeats 1000000
set_option maxRecDepth 100000
set_option linter.unusedVariables false
set_option linter.unusedSimpArgs false

theorem refRight_any (w : World) (ep seq : Int) (a : Option Addr) (N c : Nat) (ims : List Img) (hN : N = ims.length) (hr : RdG w a ims) :
    Calls Try.prog 43 #[.agg #[.int .i64 ep, .int .i64 seq, .slice a N c]] w fun e w' => e = .returned (.bool (rightG ep seq ims)) ∧ Below w.heap.size w w' := by
  have hbad : (ep < 1 ∨ 8388608 < ep ∨ seq < 1 ∨ 549755813888 < seq ∨ (N : Int) < 1 ∨ 32 < (N : Int) ∨ ¬ okP ims) → rightG ep seq ims = false := by
    intro h
    exact decide_eq_false (by
      rintro ⟨g1, g2, g3, g4, g5, g6, g7⟩
      rcases h with h | h | h | h | h | h | h <;> first | omega | exact h g7)
  have hb0 : Below w.heap.size w (w.alloc (.cells #[.int .i64 ep, .int .i64 seq, .slice a N c] 28)) := (Below.refl _ _).alloc (Nat.le_refl _) _
  by_cases h1 : ep < 1
  · have HB := hid (hbad (by omega))
    clear hbad hr hN
    go_enter Try.func43, Try.ntmps43
    go_wp2
    go_ret
    exact ⟨by rw [HB.out]; rfl, hb0⟩
  by_cases h2 : 8388608 < ep
  · have HB := hid (hbad (by omega))
    clear hbad hr hN
    go_enter Try.func43, Try.ntmps43
    go_wp2
    go_ret
    exact ⟨by rw [HB.out]; rfl, hb0⟩
  by_cases h3 : seq < 1
  · have HB := hid (hbad (by omega))
    clear hbad hr hN
    go_enter Try.func43, Try.ntmps43
    go_wp2
    go_ret
    exact ⟨by rw [HB.out]; rfl, hb0⟩
  by_cases h4 : 549755813888 < seq
  · have HB := hid (hbad (by omega))
    clear hbad hr hN
    go_enter Try.func43, Try.ntmps43
    go_wp2
    go_ret
    exact ⟨by rw [HB.out]; rfl, hb0⟩
  by_cases h5 : (N : Int) < 1
  · have HB := hid (hbad (by omega))
    clear hbad hr hN
    go_enter Try.func43, Try.ntmps43
    go_wp2
    go_ret
    exact ⟨by rw [HB.out]; rfl, hb0⟩
  by_cases h6 : 32 < (N : Int)
  · have HB := hid (hbad (by omega))
    clear hbad hr hN
    go_enter Try.func43, Try.ntmps43
    go_wp2
    go_ret
    exact ⟨by rw [HB.out]; rfl, hb0⟩
  have hgood : okP ims → rightG ep seq ims = true := fun h => decide_eq_true ⟨by omega, by omega, by omega, by omega, by omega, by omega, h⟩
  have hbad' : ¬ okP ims → rightG ep seq ims = false := fun h => hbad (.inr (.inr (.inr (.inr (.inr (.inr h))))))
  have HB := hid hbad'; have HG := hid hgood; have HN := hid hN
  have hrow0 := heap_alloc_new w (.cells #[.int .i64 ep, .int .i64 seq, .slice a N c] 28)
  have hz0 : (w.alloc (.cells #[.int .i64 ep, .int .i64 seq, .slice a N c] 28)).heap.size = w.heap.size + 1 := by simp
  obtain ⟨w0, hw0⟩ : ∃ w0, w0 = w.alloc (.cells #[.int .i64 ep, .int .i64 seq, .slice a N c] 28) := ⟨_, rfl⟩
  obtain ⟨q0, q1, q2⟩ := cells3 hrow0
  rw [← hw0] at hrow0 hz0 hb0
  have HW := hid hw0; have HB0 := hid hb0
  clear hbad hbad' hgood hN hw0
  go_enter Try.func43, Try.ntmps43
  go_wp2_with fail
  rw [← HW.out]
  clear q0 q1 q2 HW
  go_loopw [3] (fun i wr => ∃ k : Nat, k ≤ N ∧ i = .int .i64 k ∧ okP (ims.take k) ∧ Below w0.heap.size w0 wr) (fun i _ => N - (intOf i).toNat)
  case atStart => exact ⟨0, Nat.zero_le _, rfl, ⟨fun x hx => by simp at hx, by simp⟩, Below.refl _ _⟩
  case round => as_aux_lemma =>
    obtain ⟨k, hk, rfl, hok, hbl⟩ := hrel
    have HOK := hid hok
    have hg2 := (cells3 ((hbl.block _ (heap_in hrow0)).trans hrow0)).2.2
    have hbz := HB0.out.trans (hbl.mono HB0.out.size)
    have HBZ := hid hbz
    have HBL := hid hbl
    by_cases hlt : k < N
    · obtain ⟨x, hx⟩ : ∃ x, ims[k]? = some x := ⟨ims[k]'(by rw [← HN.out]; exact hlt), List.getElem?_eq_getElem _⟩
      obtain ⟨b, off, A, cc, rfl, c0, c1, _, hcc⟩ := (hr.below hbz) k x hx
      have ht := take_snoc ims k x hx
      have hno : ¬ okP (ims.take (k + 1)) → rightG ep seq ims = false := fun h => HB.out (fun h2 => h (okP_take _ _ h2))
      rw [ht, okP_snoc] at hno
      have HNO := hid hno; have HT := hid ht
      obtain ⟨xb, xd⟩ := x
      simp only at c0 c1 hcc HNO
      have HX := hid hx
      clear hno ht hx hok hbl hbz
      by_cases g1 : xb < 0
      · have HF := hid (HNO.out (fun h => by have := h.2.1.1; omega))
        clear HNO
        go_wp2
        go_ret
        exact ⟨by rw [HF.out]; rfl, HBZ.out⟩
      by_cases g2 : 511 < xb
      · have HF := hid (HNO.out (fun h => by have := h.2.1.2.1; omega))
        clear HNO
        go_wp2
        go_ret
        exact ⟨by rw [HF.out]; rfl, HBZ.out⟩
      by_cases g3 : ¬ xd.length = 4096
      · have HF := hid (HNO.out (fun h => g3 h.2.1.2.2))
        have g3' : ((xd.length : Int) == 4096) = false := by simpa using (show ¬ (xd.length : Int) = 4096 by omega)
        clear HNO
        go_wp2
        go_ret
        exact ⟨by rw [HF.out]; rfl, HBZ.out⟩
      have g3 := Decidable.of_not_not g3
      have g3' : ((xd.length : Int) != 4096) = false := by simpa using (show (xd.length : Int) = 4096 by omega)
      have HG3 := hid g3
      have hgx : (show Prop from 0 ≤ xb ∧ xb ≤ 511) := ⟨by omega, by omega⟩
      have HGX := hid hgx
      clear hgx
      go_wp2_with fail
      go_loopw [4] (fun i wr => ∃ j : Nat, j ≤ k ∧ i = .int .i64 j ∧ Below w0.heap.size w0 wr ∧ ∀ q y, q < j → ims[q]? = some y → y.1 ≠ xb) (fun i _ => k - (intOf i).toNat)
      case atStart => exact ⟨0, Nat.zero_le _, rfl, HBL.out, fun q y hq => by omega⟩
      case round => as_aux_lemma =>
        obtain ⟨j, hj, rfl, hby, hall⟩ := hrel
        have hg2 := (cells3 ((hby.block _ (heap_in hrow0)).trans hrow0)).2.2
        have hbz := HB0.out.trans (hby.mono HB0.out.size)
        have HBY := hid hby; have HBZ2 := hid hbz; have HALL := hid hall
        by_cases hlj : j < k
        · obtain ⟨y, hy⟩ : ∃ y, ims[j]? = some y := ⟨ims[j]'(by rw [← HN.out]; omega), List.getElem?_eq_getElem _⟩
          obtain ⟨b', off', A', cc', e0, d0, _⟩ := (hr.below hbz) j y hy
          have e0 := Option.some.inj e0
          simp only [Addr.mk.injEq, and_true] at e0
          obtain ⟨rfl, rfl⟩ := e0
          obtain ⟨b', off', A', cc', e0, c0', _⟩ := (hr.below hbz) k (xb, xd) HX.out
          have e0 := Option.some.inj e0
          simp only [Addr.mk.injEq, and_true] at e0
          obtain ⟨rfl, rfl⟩ := e0
          obtain ⟨yb, yd⟩ := y
          simp only at d0 c0'
          have hjN : j < N := by omega
          have sX : wr.drew.cell? ⟨w.heap.size, 2, none⟩ = some (.slice (some ⟨b, off, none⟩) N c) ∧ wr.drew.cell? ⟨b, off + j * 2, none⟩ = some (.int .i64 yb) ∧ wr.drew.cell? ⟨b, off + k * 2, none⟩ = some (.int .i64 xb) := ⟨hg2, d0, c0'⟩
          have HY := hid hy
          clear hbz hby hall d0 c0' hy
          by_cases heq : yb = xb
          · have HF := hid (HNO.out (fun h => h.2.2 (by
              refine List.mem_map.2 ⟨(yb, yd), List.mem_of_getElem? (i := j) ?_, heq⟩
              rw [List.getElem?_take, if_pos hlj]
              exact HY.out)))
            have heq' : (yb == xb) = true := by simpa using heq
            have HEQ := hid heq
            clear heq
            clear HNO
            go_wp2_with fail
            refine wp_region_held_drew (S := fun W1 => W1.cell? ⟨w.heap.size, 2, none⟩ = some (.slice (some ⟨b, off, none⟩) N c) ∧ W1.cell? ⟨b, off + j * 2, none⟩ = some (.int .i64 yb) ∧ W1.cell? ⟨b, off + k * 2, none⟩ = some (.int .i64 xb)) (by kernel_rfl) (by exact sX) (fun hHeld => ?_)
            refine wpAnyH_take (i := 0) (oi := ?o0z1) (v := ?v0z1) ?hi0z1 (by kernel_rfl) (by kernel_rfl) ?hr0z1 ?hQ0z1 ?hy0z1 hHeld ?r0z1
            case hi0z1 => (simp only [List.getElem?_toArray, List.getElem?_cons_zero, List.getElem?_cons_succ]; rfl)
            case hr0z1 => kernel_rfl
            case hQ0z1 => exact fun _ _ _ h => h
            case hy0z1 => (refine Or.inl ⟨by rfl, ?_⟩; intro w hSw; (try dsimp only at hSw); go_simp; try with_reducible rfl)
            try simp only [Act.put, List.setIfInBounds_toArray, List.set_cons_zero, List.set_cons_succ]
            refine wpAnyH_take (i := 1) (oi := ?o1z1) (v := ?v1z1) ?hi1z1 (by kernel_rfl) (by kernel_rfl) ?hr1z1 ?hQ1z1 ?hy1z1 hHeld ?r1z1
            case hi1z1 => (simp only [List.getElem?_toArray, List.getElem?_cons_zero, List.getElem?_cons_succ]; rfl)
            case hr1z1 => kernel_rfl
            case hQ1z1 => exact fun _ _ _ h => h
            case hy1z1 => (refine Or.inl ⟨by rfl, ?_⟩; intro w hSw; (try dsimp only at hSw); go_simp; try with_reducible rfl)
            try simp only [Act.put, List.setIfInBounds_toArray, List.set_cons_zero, List.set_cons_succ]
            refine wpAnyH_take (i := 2) (oi := ?o2z1) (v := ?v2z1) ?hi2z1 (by kernel_rfl) (by kernel_rfl) ?hr2z1 ?hQ2z1 ?hy2z1 hHeld ?r2z1
            case hi2z1 => (simp only [List.getElem?_toArray, List.getElem?_cons_zero, List.getElem?_cons_succ]; rfl)
            case hr2z1 => kernel_rfl
            case hQ2z1 => exact fun _ _ _ h => h
            case hy2z1 => (refine Or.inl ⟨by rfl, ?_⟩; intro w hSw; (try dsimp only at hSw); go_simp; try with_reducible rfl)
            try simp only [Act.put, List.setIfInBounds_toArray, List.set_cons_zero, List.set_cons_succ]
            refine wpAnyH_take (i := 3) (oi := ?o3z1) (v := ?v3z1) ?hi3z1 (by kernel_rfl) (by kernel_rfl) ?hr3z1 ?hQ3z1 ?hy3z1 hHeld ?r3z1
            case hi3z1 => (simp only [List.getElem?_toArray, List.getElem?_cons_zero, List.getElem?_cons_succ]; rfl)
            case hr3z1 => kernel_rfl
            case hQ3z1 => exact fun _ _ _ h => h
            case hy3z1 => (refine Or.inl ⟨by rfl, ?_⟩; intro w hSw; (try dsimp only at hSw); go_simp; try with_reducible rfl)
            try simp only [Act.put, List.setIfInBounds_toArray, List.set_cons_zero, List.set_cons_succ]
            refine wpAnyH_take (i := 4) (oi := ?o4z1) (v := ?v4z1) ?hi4z1 (by kernel_rfl) (by kernel_rfl) ?hr4z1 ?hQ4z1 ?hy4z1 hHeld ?r4z1
            case hi4z1 => (simp only [List.getElem?_toArray, List.getElem?_cons_zero, List.getElem?_cons_succ]; rfl)
            case hr4z1 => kernel_rfl
            case hQ4z1 => exact fun _ _ _ h => h
            case hy4z1 => (refine Or.inl ⟨by rfl, ?_⟩; intro w hSw; (try dsimp only at hSw); go_simp; try with_reducible rfl)
            try simp only [Act.put, List.setIfInBounds_toArray, List.set_cons_zero, List.set_cons_succ]
            refine wpAnyH_take (i := 5) (oi := ?o5z1) (v := ?v5z1) ?hi5z1 (by kernel_rfl) (by kernel_rfl) ?hr5z1 ?hQ5z1 ?hy5z1 hHeld ?r5z1
            case hi5z1 => (simp only [List.getElem?_toArray, List.getElem?_cons_zero, List.getElem?_cons_succ]; rfl)
            case hr5z1 => kernel_rfl
            case hQ5z1 => exact fun _ _ _ h => h
            case hy5z1 => (refine Or.inl ⟨by rfl, ?_⟩; intro w hSw; (try dsimp only at hSw); go_simp; try with_reducible rfl)
            try simp only [Act.put, List.setIfInBounds_toArray, List.set_cons_zero, List.set_cons_succ]
            refine wpAnyH_take (i := 6) (oi := ?o6z1) (v := ?v6z1) ?hi6z1 (by kernel_rfl) (by kernel_rfl) ?hr6z1 ?hQ6z1 ?hy6z1 hHeld ?r6z1
            case hi6z1 => (simp only [List.getElem?_toArray, List.getElem?_cons_zero, List.getElem?_cons_succ]; rfl)
            case hr6z1 => kernel_rfl
            case hQ6z1 => exact fun _ _ _ h => h
            case hy6z1 => (refine Or.inl ⟨by rfl, ?_⟩; intro w hSw; (try dsimp only at hSw); go_simp; try with_reducible rfl)
            try simp only [Act.put, List.setIfInBounds_toArray, List.set_cons_zero, List.set_cons_succ]
            refine wpAnyH_take (i := 7) (oi := ?o7z1) (v := ?v7z1) ?hi7z1 (by kernel_rfl) (by kernel_rfl) ?hr7z1 ?hQ7z1 ?hy7z1 hHeld ?r7z1
            case hi7z1 => (simp only [List.getElem?_toArray, List.getElem?_cons_zero, List.getElem?_cons_succ]; rfl)
            case hr7z1 => kernel_rfl
            case hQ7z1 => exact fun _ _ _ h => h
            case hy7z1 => (refine Or.inl ⟨by rfl, ?_⟩; intro w hSw; (try dsimp only at hSw); go_simp; try with_reducible rfl)
            try simp only [Act.put, List.setIfInBounds_toArray, List.set_cons_zero, List.set_cons_succ]
            refine wpAnyH_take (i := 8) (oi := ?o8z1) (v := ?v8z1) ?hi8z1 (by kernel_rfl) (by kernel_rfl) ?hr8z1 ?hQ8z1 ?hy8z1 hHeld ?r8z1
            case hi8z1 => (simp only [List.getElem?_toArray, List.getElem?_cons_zero, List.getElem?_cons_succ]; rfl)
            case hr8z1 => kernel_rfl
            case hQ8z1 => exact fun _ _ _ h => h
            case hy8z1 => (refine Or.inl ⟨by rfl, ?_⟩; intro w hSw; (try dsimp only at hSw); go_simp; try with_reducible rfl)
            try simp only [Act.put, List.setIfInBounds_toArray, List.set_cons_zero, List.set_cons_succ]
            refine wpAnyH_take (i := 9) (oi := ?o9z1) (v := ?v9z1) ?hi9z1 (by kernel_rfl) (by kernel_rfl) ?hr9z1 ?hQ9z1 ?hy9z1 hHeld ?r9z1
            case hi9z1 => (simp only [List.getElem?_toArray, List.getElem?_cons_zero, List.getElem?_cons_succ]; rfl)
            case hr9z1 => kernel_rfl
            case hQ9z1 => exact fun _ _ _ h => h
            case hy9z1 => (refine Or.inl ⟨by rfl, ?_⟩; intro w hSw; (try dsimp only at hSw); go_simp; try with_reducible rfl)
            try simp only [Act.put, List.setIfInBounds_toArray, List.set_cons_zero, List.set_cons_succ]
            refine wpAnyH_take (i := 10) (oi := ?o10z1) (v := ?v10z1) ?hi10z1 (by kernel_rfl) (by kernel_rfl) ?hr10z1 ?hQ10z1 ?hy10z1 hHeld ?r10z1
            case hi10z1 => (simp only [List.getElem?_toArray, List.getElem?_cons_zero, List.getElem?_cons_succ]; rfl)
            case hr10z1 => kernel_rfl
            case hQ10z1 => exact fun _ _ _ h => h
            case hy10z1 => (refine Or.inl ⟨by rfl, ?_⟩; intro w hSw; (try dsimp only at hSw); go_simp; try with_reducible rfl)
            try simp only [Act.put, List.setIfInBounds_toArray, List.set_cons_zero, List.set_cons_succ]
            refine wpAnyH_take (i := 11) (oi := ?o11z1) (v := ?v11z1) ?hi11z1 (by kernel_rfl) (by kernel_rfl) ?hr11z1 ?hQ11z1 ?hy11z1 hHeld ?r11z1
            case hi11z1 => (simp only [List.getElem?_toArray, List.getElem?_cons_zero, List.getElem?_cons_succ]; rfl)
            case hr11z1 => kernel_rfl
            case hQ11z1 => exact fun _ _ _ h => h
            case hy11z1 => (refine Or.inl ⟨by rfl, ?_⟩; intro w hSw; (try dsimp only at hSw); go_simp; try with_reducible rfl)
            try simp only [Act.put, List.setIfInBounds_toArray, List.set_cons_zero, List.set_cons_succ]
            refine wpAnyH_take (i := 12) (oi := ?o12z1) (v := ?v12z1) ?hi12z1 (by kernel_rfl) (by kernel_rfl) ?hr12z1 ?hQ12z1 ?hy12z1 hHeld ?r12z1
            case hi12z1 => (simp only [List.getElem?_toArray, List.getElem?_cons_zero, List.getElem?_cons_succ]; rfl)
            case hr12z1 => kernel_rfl
            case hQ12z1 => exact fun _ _ _ h => h
            case hy12z1 => (refine Or.inl ⟨by rfl, ?_⟩; intro w hSw; (try dsimp only at hSw); go_simp; try with_reducible rfl)
            try simp only [Act.put, List.setIfInBounds_toArray, List.set_cons_zero, List.set_cons_succ]
            refine wpAnyH_done (by kernel_rfl) ?_ _
            go_wp2
            go_ret
            exact ⟨by rw [HF.out]; rfl, below_drw HBZ2.out⟩
          · have heq' : (yb == xb) = false := by simpa using heq
            have HEQ := hid heq
            clear heq
            go_wp2_with fail
            refine wp_region_held_drew (S := fun W1 => W1.cell? ⟨w.heap.size, 2, none⟩ = some (.slice (some ⟨b, off, none⟩) N c) ∧ W1.cell? ⟨b, off + j * 2, none⟩ = some (.int .i64 yb) ∧ W1.cell? ⟨b, off + k * 2, none⟩ = some (.int .i64 xb)) (by kernel_rfl) (by exact sX) (fun hHeld => ?_)
            refine wpAnyH_take (i := 0) (oi := ?o0z2) (v := ?v0z2) ?hi0z2 (by kernel_rfl) (by kernel_rfl) ?hr0z2 ?hQ0z2 ?hy0z2 hHeld ?r0z2
            case hi0z2 => (simp only [List.getElem?_toArray, List.getElem?_cons_zero, List.getElem?_cons_succ]; rfl)
            case hr0z2 => kernel_rfl
            case hQ0z2 => exact fun _ _ _ h => h
            case hy0z2 => (refine Or.inl ⟨by rfl, ?_⟩; intro w hSw; (try dsimp only at hSw); go_simp; try with_reducible rfl)
            try simp only [Act.put, List.setIfInBounds_toArray, List.set_cons_zero, List.set_cons_succ]
            refine wpAnyH_take (i := 1) (oi := ?o1z2) (v := ?v1z2) ?hi1z2 (by kernel_rfl) (by kernel_rfl) ?hr1z2 ?hQ1z2 ?hy1z2 hHeld ?r1z2
            case hi1z2 => (simp only [List.getElem?_toArray, List.getElem?_cons_zero, List.getElem?_cons_succ]; rfl)
            case hr1z2 => kernel_rfl
            case hQ1z2 => exact fun _ _ _ h => h
            case hy1z2 => (refine Or.inl ⟨by rfl, ?_⟩; intro w hSw; (try dsimp only at hSw); go_simp; try with_reducible rfl)
            try simp only [Act.put, List.setIfInBounds_toArray, List.set_cons_zero, List.set_cons_succ]
            refine wpAnyH_take (i := 2) (oi := ?o2z2) (v := ?v2z2) ?hi2z2 (by kernel_rfl) (by kernel_rfl) ?hr2z2 ?hQ2z2 ?hy2z2 hHeld ?r2z2
            case hi2z2 => (simp only [List.getElem?_toArray, List.getElem?_cons_zero, List.getElem?_cons_succ]; rfl)
            case hr2z2 => kernel_rfl
            case hQ2z2 => exact fun _ _ _ h => h
            case hy2z2 => (refine Or.inl ⟨by rfl, ?_⟩; intro w hSw; (try dsimp only at hSw); go_simp; try with_reducible rfl)
            try simp only [Act.put, List.setIfInBounds_toArray, List.set_cons_zero, List.set_cons_succ]
            refine wpAnyH_take (i := 3) (oi := ?o3z2) (v := ?v3z2) ?hi3z2 (by kernel_rfl) (by kernel_rfl) ?hr3z2 ?hQ3z2 ?hy3z2 hHeld ?r3z2
            case hi3z2 => (simp only [List.getElem?_toArray, List.getElem?_cons_zero, List.getElem?_cons_succ]; rfl)
            case hr3z2 => kernel_rfl
            case hQ3z2 => exact fun _ _ _ h => h
            case hy3z2 => (refine Or.inl ⟨by rfl, ?_⟩; intro w hSw; (try dsimp only at hSw); go_simp; try with_reducible rfl)
            try simp only [Act.put, List.setIfInBounds_toArray, List.set_cons_zero, List.set_cons_succ]
            refine wpAnyH_take (i := 4) (oi := ?o4z2) (v := ?v4z2) ?hi4z2 (by kernel_rfl) (by kernel_rfl) ?hr4z2 ?hQ4z2 ?hy4z2 hHeld ?r4z2
            case hi4z2 => (simp only [List.getElem?_toArray, List.getElem?_cons_zero, List.getElem?_cons_succ]; rfl)
            case hr4z2 => kernel_rfl
            case hQ4z2 => exact fun _ _ _ h => h
            case hy4z2 => (refine Or.inl ⟨by rfl, ?_⟩; intro w hSw; (try dsimp only at hSw); go_simp; try with_reducible rfl)
            try simp only [Act.put, List.setIfInBounds_toArray, List.set_cons_zero, List.set_cons_succ]
            refine wpAnyH_take (i := 5) (oi := ?o5z2) (v := ?v5z2) ?hi5z2 (by kernel_rfl) (by kernel_rfl) ?hr5z2 ?hQ5z2 ?hy5z2 hHeld ?r5z2
            case hi5z2 => (simp only [List.getElem?_toArray, List.getElem?_cons_zero, List.getElem?_cons_succ]; rfl)
            case hr5z2 => kernel_rfl
            case hQ5z2 => exact fun _ _ _ h => h
            case hy5z2 => (refine Or.inl ⟨by rfl, ?_⟩; intro w hSw; (try dsimp only at hSw); go_simp; try with_reducible rfl)
            try simp only [Act.put, List.setIfInBounds_toArray, List.set_cons_zero, List.set_cons_succ]
            refine wpAnyH_take (i := 6) (oi := ?o6z2) (v := ?v6z2) ?hi6z2 (by kernel_rfl) (by kernel_rfl) ?hr6z2 ?hQ6z2 ?hy6z2 hHeld ?r6z2
            case hi6z2 => (simp only [List.getElem?_toArray, List.getElem?_cons_zero, List.getElem?_cons_succ]; rfl)
            case hr6z2 => kernel_rfl
            case hQ6z2 => exact fun _ _ _ h => h
            case hy6z2 => (refine Or.inl ⟨by rfl, ?_⟩; intro w hSw; (try dsimp only at hSw); go_simp; try with_reducible rfl)
            try simp only [Act.put, List.setIfInBounds_toArray, List.set_cons_zero, List.set_cons_succ]
            refine wpAnyH_take (i := 7) (oi := ?o7z2) (v := ?v7z2) ?hi7z2 (by kernel_rfl) (by kernel_rfl) ?hr7z2 ?hQ7z2 ?hy7z2 hHeld ?r7z2
            case hi7z2 => (simp only [List.getElem?_toArray, List.getElem?_cons_zero, List.getElem?_cons_succ]; rfl)
            case hr7z2 => kernel_rfl
            case hQ7z2 => exact fun _ _ _ h => h
            case hy7z2 => (refine Or.inl ⟨by rfl, ?_⟩; intro w hSw; (try dsimp only at hSw); go_simp; try with_reducible rfl)
            try simp only [Act.put, List.setIfInBounds_toArray, List.set_cons_zero, List.set_cons_succ]
            refine wpAnyH_take (i := 8) (oi := ?o8z2) (v := ?v8z2) ?hi8z2 (by kernel_rfl) (by kernel_rfl) ?hr8z2 ?hQ8z2 ?hy8z2 hHeld ?r8z2
            case hi8z2 => (simp only [List.getElem?_toArray, List.getElem?_cons_zero, List.getElem?_cons_succ]; rfl)
            case hr8z2 => kernel_rfl
            case hQ8z2 => exact fun _ _ _ h => h
            case hy8z2 => (refine Or.inl ⟨by rfl, ?_⟩; intro w hSw; (try dsimp only at hSw); go_simp; try with_reducible rfl)
            try simp only [Act.put, List.setIfInBounds_toArray, List.set_cons_zero, List.set_cons_succ]
            refine wpAnyH_take (i := 9) (oi := ?o9z2) (v := ?v9z2) ?hi9z2 (by kernel_rfl) (by kernel_rfl) ?hr9z2 ?hQ9z2 ?hy9z2 hHeld ?r9z2
            case hi9z2 => (simp only [List.getElem?_toArray, List.getElem?_cons_zero, List.getElem?_cons_succ]; rfl)
            case hr9z2 => kernel_rfl
            case hQ9z2 => exact fun _ _ _ h => h
            case hy9z2 => (refine Or.inl ⟨by rfl, ?_⟩; intro w hSw; (try dsimp only at hSw); go_simp; try with_reducible rfl)
            try simp only [Act.put, List.setIfInBounds_toArray, List.set_cons_zero, List.set_cons_succ]
            refine wpAnyH_take (i := 10) (oi := ?o10z2) (v := ?v10z2) ?hi10z2 (by kernel_rfl) (by kernel_rfl) ?hr10z2 ?hQ10z2 ?hy10z2 hHeld ?r10z2
            case hi10z2 => (simp only [List.getElem?_toArray, List.getElem?_cons_zero, List.getElem?_cons_succ]; rfl)
            case hr10z2 => kernel_rfl
            case hQ10z2 => exact fun _ _ _ h => h
            case hy10z2 => (refine Or.inl ⟨by rfl, ?_⟩; intro w hSw; (try dsimp only at hSw); go_simp; try with_reducible rfl)
            try simp only [Act.put, List.setIfInBounds_toArray, List.set_cons_zero, List.set_cons_succ]
            refine wpAnyH_take (i := 11) (oi := ?o11z2) (v := ?v11z2) ?hi11z2 (by kernel_rfl) (by kernel_rfl) ?hr11z2 ?hQ11z2 ?hy11z2 hHeld ?r11z2
            case hi11z2 => (simp only [List.getElem?_toArray, List.getElem?_cons_zero, List.getElem?_cons_succ]; rfl)
            case hr11z2 => kernel_rfl
            case hQ11z2 => exact fun _ _ _ h => h
            case hy11z2 => (refine Or.inl ⟨by rfl, ?_⟩; intro w hSw; (try dsimp only at hSw); go_simp; try with_reducible rfl)
            try simp only [Act.put, List.setIfInBounds_toArray, List.set_cons_zero, List.set_cons_succ]
            refine wpAnyH_take (i := 12) (oi := ?o12z2) (v := ?v12z2) ?hi12z2 (by kernel_rfl) (by kernel_rfl) ?hr12z2 ?hQ12z2 ?hy12z2 hHeld ?r12z2
            case hi12z2 => (simp only [List.getElem?_toArray, List.getElem?_cons_zero, List.getElem?_cons_succ]; rfl)
            case hr12z2 => kernel_rfl
            case hQ12z2 => exact fun _ _ _ h => h
            case hy12z2 => (refine Or.inl ⟨by rfl, ?_⟩; intro w hSw; (try dsimp only at hSw); go_simp; try with_reducible rfl)
            try simp only [Act.put, List.setIfInBounds_toArray, List.set_cons_zero, List.set_cons_succ]
            refine wpAnyH_done (by kernel_rfl) ?_ _
            go_wp2_with fail
            go_roundw
            case rel =>
              refine ⟨j + 1, by omega, by go_num, below_drw HBY.out, fun q y hq hqy => ?_⟩
              by_cases e : q = j
              · subst e
                rw [HY.out] at hqy
                cases hqy
                exact HEQ.out
              · exact HALL.out q y (by omega) hqy
            case measure => simp [intOf]; omega
        · obtain rfl : j = k := by omega
          clear hbz hby hall
          go_wp2_with fail
          go_roundw
          case rel =>
            refine ⟨j + 1, by omega, by go_num, ?_, HBY.out⟩
            rw [HT.out, okP_snoc]
            refine ⟨HOK.out, ⟨HGX.out.1, HGX.out.2, HG3.out⟩, fun h => ?_⟩
            obtain ⟨y, hy, e⟩ := List.mem_map.1 h
            obtain ⟨q, hq, hqe⟩ := List.getElem_of_mem hy
            have hq' : q < j := by simp at hq; omega
            have : ims[q]? = some y := by
              rw [← hqe, List.getElem_take]
              exact List.getElem?_eq_getElem _
            exact HALL.out q y hq' this e
          case measure => simp [intOf]; omega
    · obtain rfl : k = N := by omega
      have HF := hid (HG.out (by have := HOK.out; rwa [List.take_of_length_le (by rw [HN.out]; exact Nat.le_refl _)] at this))
      clear hok hbl hbz
      go_wp2
      go_ret
      exact ⟨by rw [HF.out]; rfl, HBZ.out⟩
end Go.Proofs.Ytknhfaplddgnlaa
