/- The document's record: stamp, Stamped, Right (printed by gen06g.py). -/
import Derived.Test.YtknhfaplddgnlaaRecN
import Derived.Test.YtknhfaplddgnlaaOct2
namespace Go.Proofs.Ytknhfaplddgnlaa
open Go.RowKit
set_option maxHeartbeats 1000000
set_option maxRecDepth 100000
set_option linter.unusedVariables false
set_option linter.unusedSimpArgs false

theorem refStamp_any (w : World) (ep seq : Nat) (x y : Int) (hx : x = (ep : Int)) (hy : y = (seq : Int)) (h1 : ep ≤ 16777216) (h2 : seq ≤ 1099511627776) (h3 : ep * 1099511627776 + seq < 18446744073709551616) (v : Value) :
    Calls Try.prog 45 #[.agg #[.int .i64 x, .int .i64 y, v]] w fun e w' => ∃ g c, e = .returned (.slice (some ⟨g, 0, none⟩) 8 c) ∧ OwnB w.heap.size w' (some ⟨g, 0, none⟩) c (stampB ep seq) ∧ Below w.heap.size w w' := by
  subst hx hy
  have C := fun (W : World) (x : Int) hx => refAdd_any W none 0 0 [] rfl (ep * 1099511627776 + seq) 8 x hx (by simp) (RdB.nil _ _) (by omega) (by omega)
  have e1 : IntKind.u64.wrap (ep : Int) = (ep : Int) := IntWalk.u64_in _ (by omega)
  have e2 : IntKind.u64.wrap (seq : Int) = (seq : Int) := IntWalk.u64_in _ (by omega)
  have e3 : IntKind.u64.wrap ((ep : Int) * 1099511627776) = (ep : Int) * 1099511627776 := IntWalk.u64_in _ (by omega)
  have e4 : IntKind.u64.wrap ((ep : Int) * 1099511627776 + (seq : Int)) = (ep : Int) * 1099511627776 + (seq : Int) := IntWalk.u64_in _ (by omega)
  have hb0 : Below w.heap.size w (w.alloc (.cells #[.int .i64 (ep : Int), .int .i64 (seq : Int), v] 28)) := (Below.refl _ _).alloc (Nat.le_refl _) _
  go_enter Try.func45, Try.ntmps45
  go_wp2_with fail
  refine (C _ _ ?_).mono ?_
  · omega
  · rintro e w' ⟨A, c', rfl, ho, hb⟩
    rw [List.nil_append] at ho
    obtain ⟨g, rfl, _⟩ := own_adr4 ho (by rw [be_length]; decide)
    go_wp2
    go_ret
    exact ⟨g, c', rfl, ho.mono (by simp), hb0.trans (hb.mono (by simp))⟩
theorem refStamped_any (w : World) (a : Option Addr) (c N : Nat) (l : List UInt8) (hN : N = l.length) (hl : l.length ≤ 200000000000000) (hc : l.length ≤ c ∧ c ≤ 9223372036854775807) (hr : RdB w a l) (ep seq : Int) :
    Calls Try.prog 25 #[.slice a N c, .int .i64 ep, .int .i64 seq] w fun e w' => e = .returned (.bool (stmpD l ep seq)) ∧ Below w.heap.size w w' := by
  have hbad : (N ≠ 4096 ∨ ep < 1 ∨ 8388608 < ep ∨ seq < 1 ∨ 549755813888 < seq) → stmpD l ep seq = false := by
    intro h
    refine decide_eq_false ?_
    rintro ⟨g1, g2, g3, g4, g5, _⟩
    omega
  have HBAD := hid hbad
  clear hbad
  by_cases g0 : ¬ N = 4096
  · have HF := hid (HBAD.out (.inl g0))
    have g0' : ((N : Int) != 4096) = true := by simpa using (show ¬ (N : Int) = 4096 by omega)
    have g0'' : ((N : Int) == 4096) = false := by simpa using (show ¬ (N : Int) = 4096 by omega)
    clear hN HBAD
    go_enter Try.func25, Try.ntmps25
    go_wp2
    go_ret
    exact ⟨by rw [HF.out]; rfl, Below.refl _ _⟩
  have g0 := Decidable.of_not_not g0
  subst g0
  have HL := hid hN
  clear hN
  by_cases g1 : ep < 1
  · have HF := hid (HBAD.out (.inr (.inl g1)))
    go_enter Try.func25, Try.ntmps25
    go_wp2
    go_ret
    exact ⟨by rw [HF.out]; rfl, Below.refl _ _⟩
  by_cases g2 : 8388608 < ep
  · have HF := hid (HBAD.out (.inr (.inr (.inl g2))))
    go_enter Try.func25, Try.ntmps25
    go_wp2
    go_ret
    exact ⟨by rw [HF.out]; rfl, Below.refl _ _⟩
  by_cases g3 : seq < 1
  · have HF := hid (HBAD.out (.inr (.inr (.inr (.inl g3)))))
    go_enter Try.func25, Try.ntmps25
    go_wp2
    go_ret
    exact ⟨by rw [HF.out]; rfl, Below.refl _ _⟩
  by_cases g4 : 549755813888 < seq
  · have HF := hid (HBAD.out (.inr (.inr (.inr (.inr g4)))))
    go_enter Try.func25, Try.ntmps25
    go_wp2
    go_ret
    exact ⟨by rw [HF.out]; rfl, Below.refl _ _⟩
  obtain ⟨E, rfl⟩ := Int.eq_ofNat_of_zero_le (show 0 ≤ ep by omega)
  obtain ⟨Q, rfl⟩ := Int.eq_ofNat_of_zero_le (show 0 ≤ seq by omega)
  have ST := refStamp_any w E Q E Q rfl rfl (by omega) (by omega) (by omega) (.slice none 0 0)
  have hyes : stmpD l (E : Int) (Q : Int) = decide (∀ k, k < 4096 → k % 512 < 8 → bat l k = bat (stampB E Q) (k % 512)) := by
    have hL := HL.out
    unfold stmpD
    simp only [Int.toNat_natCast]
    refine decide_eq_decide.2 ⟨fun h => h.2.2.2.2.2, fun h => ⟨by omega, by omega, by omega, by omega, hL.symm, h⟩⟩
  have HY := hid hyes
  cases a with
  | none => 
    obtain ⟨_, _, e, _⟩ := hr.at_ (by intro e; have := HL.out; rw [e] at this; exact absurd this (by decide))
    cases e
  | some ad =>
  obtain ⟨b, off, e0, -⟩ := hr.at_ (by intro e; have := HL.out; rw [e] at this; exact absurd this (by decide))
  have e0' := Option.some.inj e0
  subst e0'
  clear hyes e0 HBAD
  go_enter Try.func25, Try.ntmps25
  go_wp2_with fail
  refine ST.mono ?_
  rintro e w1 ⟨g, c1, rfl, ho, b1⟩
  clear ST
  have hr1 := hr.below b1
  have hol : (stampB E Q).length = 8 := stampB_length E Q
  have HO := hid ho; have HR := hid hr1; have HB := hid b1
  clear ho hr1 b1 hr
  go_wp2_with fail
  go_loopw [8] (fun i wr => ∃ k : Nat, k ≤ 4096 ∧ i = .int .i64 k ∧ Below w1.heap.size w1 wr ∧ ∀ j, j < k → j % 512 < 8 → bat l j = bat (stampB E Q) (j % 512)) (fun i _ => 4096 - (intOf i).toNat)
  case atStart => exact ⟨0, Nat.zero_le _, rfl, Below.refl _ _, fun j hj => by omega⟩
  case round => as_aux_lemma =>
    obtain ⟨k, hk, rfl, hb', hall⟩ := hrel
    have hrr := HR.out.below hb'
    have hor := (HO.out.below hb').rd
    have hbb := HB.out.trans (hb'.mono HB.out.size)
    have HALL := hid hall; have HBB := hid hbb; have HB' := hid hb'
    have hL := HL.out
    by_cases hlt : k < 4096
    · obtain ⟨_, _, e, x0⟩ := hrr.at_ (by intro e; rw [e] at hL; exact absurd hL (by decide))
      have e := Option.some.inj e
      simp only [Addr.mk.injEq, and_true] at e
      obtain ⟨rfl, rfl⟩ := e
      obtain ⟨_, _, e, y0⟩ := hor.at_ (by intro e; rw [e] at hol; exact absurd hol (by decide))
      have e := Option.some.inj e
      simp only [Addr.mk.injEq, and_true] at e
      obtain ⟨rfl, rfl⟩ := e
      have x1 := x0 k (by omega)
      have ht : (k : Int).tmod 512 = (k : Int) % 512 := Int.tmod_eq_emod_of_nonneg (by omega)
      by_cases hm : k % 512 < 8
      · have y1 := y0 (k % 512) (by omega)
        rw [Nat.zero_add] at y1
        obtain ⟨x, hx⟩ : ∃ x, x = bat l k := ⟨_, rfl⟩
        obtain ⟨y, hy⟩ : ∃ y, y = bat (stampB E Q) (k % 512) := ⟨_, rfl⟩
        rw [← hx] at x1
        rw [← hy] at y1
        have sX : wr.drew.cell? ⟨b, off + k, none⟩ = some (.int .u8 (x.toNat : Int)) ∧ wr.drew.cell? ⟨g, k % 512, none⟩ = some (.int .u8 (y.toNat : Int)) := ⟨x1, y1⟩
        have hm2 : ((k : Int) % 512 < 8) := by omega
        have hm3 : ((k : Int) % 512).toNat = k % 512 := by omega
        have hm4 : 0 ≤ (k : Int) % 512 := by omega
        by_cases hxy : x = y
        · have hne : (((x.toNat : Nat) : Int) != ((y.toNat : Nat) : Int)) = false := by rw [hxy]; simp
          have hne' : (((x.toNat : Nat) : Int) == ((y.toNat : Nat) : Int)) = true := by rw [hxy]; simp
          have HXY := hid (hx.symm.trans (hxy.trans hy))
          clear hrr hor hbb hall x0 y0 x1 y1 hL hx hy hxy hb'
          go_wp2_with fail
          refine wp_region_held_drew (S := fun W1 => W1.cell? ⟨b, off + k, none⟩ = some (.int .u8 (x.toNat : Int)) ∧ W1.cell? ⟨g, k % 512, none⟩ = some (.int .u8 (y.toNat : Int))) (by kernel_rfl) (by exact sX) (fun hHeld => ?_)
          refine wpAnyH_take (i := 0) (oi := ?o0z3) (v := ?v0z3) ?hi0z3 (by kernel_rfl) (by kernel_rfl) ?hr0z3 ?hQ0z3 ?hy0z3 hHeld ?r0z3
          case hi0z3 => (simp only [List.getElem?_toArray, List.getElem?_cons_zero, List.getElem?_cons_succ]; rfl)
          case hr0z3 => kernel_rfl
          case hQ0z3 => exact fun _ _ _ h => h
          case hy0z3 => (refine Or.inl ⟨by rfl, ?_⟩; intro w hSw; (try dsimp only at hSw); go_simp; try with_reducible rfl)
          try simp only [Act.put, List.setIfInBounds_toArray, List.set_cons_zero, List.set_cons_succ]
          refine wpAnyH_take (i := 1) (oi := ?o1z3) (v := ?v1z3) ?hi1z3 (by kernel_rfl) (by kernel_rfl) ?hr1z3 ?hQ1z3 ?hy1z3 hHeld ?r1z3
          case hi1z3 => (simp only [List.getElem?_toArray, List.getElem?_cons_zero, List.getElem?_cons_succ]; rfl)
          case hr1z3 => kernel_rfl
          case hQ1z3 => exact fun _ _ _ h => h
          case hy1z3 => (refine Or.inl ⟨by rfl, ?_⟩; intro w hSw; (try dsimp only at hSw); go_simp; try with_reducible rfl)
          try simp only [Act.put, List.setIfInBounds_toArray, List.set_cons_zero, List.set_cons_succ]
          refine wpAnyH_take (i := 2) (oi := ?o2z3) (v := ?v2z3) ?hi2z3 (by kernel_rfl) (by kernel_rfl) ?hr2z3 ?hQ2z3 ?hy2z3 hHeld ?r2z3
          case hi2z3 => (simp only [List.getElem?_toArray, List.getElem?_cons_zero, List.getElem?_cons_succ]; rfl)
          case hr2z3 => kernel_rfl
          case hQ2z3 => exact fun _ _ _ h => h
          case hy2z3 => (refine Or.inl ⟨by rfl, ?_⟩; intro w hSw; (try dsimp only at hSw); go_simp; try with_reducible rfl)
          try simp only [Act.put, List.setIfInBounds_toArray, List.set_cons_zero, List.set_cons_succ]
          refine wpAnyH_take (i := 3) (oi := ?o3z3) (v := ?v3z3) ?hi3z3 (by kernel_rfl) (by kernel_rfl) ?hr3z3 ?hQ3z3 ?hy3z3 hHeld ?r3z3
          case hi3z3 => (simp only [List.getElem?_toArray, List.getElem?_cons_zero, List.getElem?_cons_succ]; rfl)
          case hr3z3 => kernel_rfl
          case hQ3z3 => exact fun _ _ _ h => h
          case hy3z3 => (refine Or.inl ⟨by rfl, ?_⟩; intro w hSw; (try dsimp only at hSw); go_simp; try with_reducible rfl)
          try simp only [Act.put, List.setIfInBounds_toArray, List.set_cons_zero, List.set_cons_succ]
          refine wpAnyH_take (i := 4) (oi := ?o4z3) (v := ?v4z3) ?hi4z3 (by kernel_rfl) (by kernel_rfl) ?hr4z3 ?hQ4z3 ?hy4z3 hHeld ?r4z3
          case hi4z3 => (simp only [List.getElem?_toArray, List.getElem?_cons_zero, List.getElem?_cons_succ]; rfl)
          case hr4z3 => kernel_rfl
          case hQ4z3 => exact fun _ _ _ h => h
          case hy4z3 => (refine Or.inl ⟨by rfl, ?_⟩; intro w hSw; (try dsimp only at hSw); go_simp; try with_reducible rfl)
          try simp only [Act.put, List.setIfInBounds_toArray, List.set_cons_zero, List.set_cons_succ]
          refine wpAnyH_take (i := 5) (oi := ?o5z3) (v := ?v5z3) ?hi5z3 (by kernel_rfl) (by kernel_rfl) ?hr5z3 ?hQ5z3 ?hy5z3 hHeld ?r5z3
          case hi5z3 => (simp only [List.getElem?_toArray, List.getElem?_cons_zero, List.getElem?_cons_succ]; rfl)
          case hr5z3 => kernel_rfl
          case hQ5z3 => exact fun _ _ _ h => h
          case hy5z3 => (refine Or.inl ⟨by rfl, ?_⟩; intro w hSw; (try dsimp only at hSw); go_simp; try with_reducible rfl)
          try simp only [Act.put, List.setIfInBounds_toArray, List.set_cons_zero, List.set_cons_succ]
          refine wpAnyH_take (i := 6) (oi := ?o6z3) (v := ?v6z3) ?hi6z3 (by kernel_rfl) (by kernel_rfl) ?hr6z3 ?hQ6z3 ?hy6z3 hHeld ?r6z3
          case hi6z3 => (simp only [List.getElem?_toArray, List.getElem?_cons_zero, List.getElem?_cons_succ]; rfl)
          case hr6z3 => kernel_rfl
          case hQ6z3 => exact fun _ _ _ h => h
          case hy6z3 => (refine Or.inl ⟨by rfl, ?_⟩; intro w hSw; (try dsimp only at hSw); go_simp; try with_reducible rfl)
          try simp only [Act.put, List.setIfInBounds_toArray, List.set_cons_zero, List.set_cons_succ]
          refine wpAnyH_take (i := 7) (oi := ?o7z3) (v := ?v7z3) ?hi7z3 (by kernel_rfl) (by kernel_rfl) ?hr7z3 ?hQ7z3 ?hy7z3 hHeld ?r7z3
          case hi7z3 => (simp only [List.getElem?_toArray, List.getElem?_cons_zero, List.getElem?_cons_succ]; rfl)
          case hr7z3 => kernel_rfl
          case hQ7z3 => exact fun _ _ _ h => h
          case hy7z3 => (refine Or.inl ⟨by rfl, ?_⟩; intro w hSw; (try dsimp only at hSw); go_simp; try with_reducible rfl)
          try simp only [Act.put, List.setIfInBounds_toArray, List.set_cons_zero, List.set_cons_succ]
          refine wpAnyH_take (i := 8) (oi := ?o8z3) (v := ?v8z3) ?hi8z3 (by kernel_rfl) (by kernel_rfl) ?hr8z3 ?hQ8z3 ?hy8z3 hHeld ?r8z3
          case hi8z3 => (simp only [List.getElem?_toArray, List.getElem?_cons_zero, List.getElem?_cons_succ]; rfl)
          case hr8z3 => kernel_rfl
          case hQ8z3 => exact fun _ _ _ h => h
          case hy8z3 => (refine Or.inl ⟨by rfl, ?_⟩; intro w hSw; (try dsimp only at hSw); go_simp; try with_reducible rfl)
          try simp only [Act.put, List.setIfInBounds_toArray, List.set_cons_zero, List.set_cons_succ]
          refine wpAnyH_take (i := 9) (oi := ?o9z3) (v := ?v9z3) ?hi9z3 (by kernel_rfl) (by kernel_rfl) ?hr9z3 ?hQ9z3 ?hy9z3 hHeld ?r9z3
          case hi9z3 => (simp only [List.getElem?_toArray, List.getElem?_cons_zero, List.getElem?_cons_succ]; rfl)
          case hr9z3 => kernel_rfl
          case hQ9z3 => exact fun _ _ _ h => h
          case hy9z3 => (refine Or.inl ⟨by rfl, ?_⟩; intro w hSw; (try dsimp only at hSw); go_simp; try with_reducible rfl)
          try simp only [Act.put, List.setIfInBounds_toArray, List.set_cons_zero, List.set_cons_succ]
          refine wpAnyH_take (i := 10) (oi := ?o10z3) (v := ?v10z3) ?hi10z3 (by kernel_rfl) (by kernel_rfl) ?hr10z3 ?hQ10z3 ?hy10z3 hHeld ?r10z3
          case hi10z3 => (simp only [List.getElem?_toArray, List.getElem?_cons_zero, List.getElem?_cons_succ]; rfl)
          case hr10z3 => kernel_rfl
          case hQ10z3 => exact fun _ _ _ h => h
          case hy10z3 => (refine Or.inl ⟨by rfl, ?_⟩; intro w hSw; (try dsimp only at hSw); go_simp; try with_reducible rfl)
          try simp only [Act.put, List.setIfInBounds_toArray, List.set_cons_zero, List.set_cons_succ]
          refine wpAnyH_take (i := 11) (oi := ?o11z3) (v := ?v11z3) ?hi11z3 (by kernel_rfl) (by kernel_rfl) ?hr11z3 ?hQ11z3 ?hy11z3 hHeld ?r11z3
          case hi11z3 => (simp only [List.getElem?_toArray, List.getElem?_cons_zero, List.getElem?_cons_succ]; rfl)
          case hr11z3 => kernel_rfl
          case hQ11z3 => exact fun _ _ _ h => h
          case hy11z3 => (refine Or.inl ⟨by rfl, ?_⟩; intro w hSw; (try dsimp only at hSw); go_simp; try with_reducible rfl)
          try simp only [Act.put, List.setIfInBounds_toArray, List.set_cons_zero, List.set_cons_succ]
          refine wpAnyH_take (i := 12) (oi := ?o12z3) (v := ?v12z3) ?hi12z3 (by kernel_rfl) (by kernel_rfl) ?hr12z3 ?hQ12z3 ?hy12z3 hHeld ?r12z3
          case hi12z3 => (simp only [List.getElem?_toArray, List.getElem?_cons_zero, List.getElem?_cons_succ]; rfl)
          case hr12z3 => kernel_rfl
          case hQ12z3 => exact fun _ _ _ h => h
          case hy12z3 => (refine Or.inl ⟨by rfl, ?_⟩; intro w hSw; (try dsimp only at hSw); go_simp; try with_reducible rfl)
          try simp only [Act.put, List.setIfInBounds_toArray, List.set_cons_zero, List.set_cons_succ]
          refine wpAnyH_take (i := 13) (oi := ?o13z3) (v := ?v13z3) ?hi13z3 (by kernel_rfl) (by kernel_rfl) ?hr13z3 ?hQ13z3 ?hy13z3 hHeld ?r13z3
          case hi13z3 => (simp only [List.getElem?_toArray, List.getElem?_cons_zero, List.getElem?_cons_succ]; rfl)
          case hr13z3 => kernel_rfl
          case hQ13z3 => exact fun _ _ _ h => h
          case hy13z3 => (refine Or.inl ⟨by rfl, ?_⟩; intro w hSw; (try dsimp only at hSw); go_simp; try with_reducible rfl)
          try simp only [Act.put, List.setIfInBounds_toArray, List.set_cons_zero, List.set_cons_succ]
          refine wpAnyH_take (i := 14) (oi := ?o14z3) (v := ?v14z3) ?hi14z3 (by kernel_rfl) (by kernel_rfl) ?hr14z3 ?hQ14z3 ?hy14z3 hHeld ?r14z3
          case hi14z3 => (simp only [List.getElem?_toArray, List.getElem?_cons_zero, List.getElem?_cons_succ]; rfl)
          case hr14z3 => kernel_rfl
          case hQ14z3 => exact fun _ _ _ h => h
          case hy14z3 => (refine Or.inl ⟨by rfl, ?_⟩; intro w hSw; (try dsimp only at hSw); go_simp; try with_reducible rfl)
          try simp only [Act.put, List.setIfInBounds_toArray, List.set_cons_zero, List.set_cons_succ]
          refine wpAnyH_done (by kernel_rfl) ?_ _
          go_wp2_with fail
          go_roundw
          case rel =>
            refine ⟨k + 1, by omega, by go_num, below_drw HB'.out, fun j hj hjm => ?_⟩
            by_cases e : j = k
            · subst e
              exact HXY.out
            · exact HALL.out j (by omega) hjm
          case measure => simp [intOf]; omega
        · have hne0 : ¬ (((x.toNat : Nat) : Int) = ((y.toNat : Nat) : Int)) := fun e => hxy (UInt8.toNat_inj.1 (by omega))
          have hne : (((x.toNat : Nat) : Int) != ((y.toNat : Nat) : Int)) = true := by simpa using hne0
          have hne' : (((x.toNat : Nat) : Int) == ((y.toNat : Nat) : Int)) = false := by simpa using hne0
          have HF : Hid (stmpD l (E : Int) (Q : Int) = false) := hid (by
            rw [HY.out]
            exact decide_eq_false fun h => hxy (hx.trans ((h k hlt hm).trans hy.symm)))
          clear hrr hor hbb hall x0 y0 x1 y1 hL hx hy hxy hb'
          go_wp2_with fail
          refine wp_region_held_drew (S := fun W1 => W1.cell? ⟨b, off + k, none⟩ = some (.int .u8 (x.toNat : Int)) ∧ W1.cell? ⟨g, k % 512, none⟩ = some (.int .u8 (y.toNat : Int))) (by kernel_rfl) (by exact sX) (fun hHeld => ?_)
          refine wpAnyH_take (i := 0) (oi := ?o0z4) (v := ?v0z4) ?hi0z4 (by kernel_rfl) (by kernel_rfl) ?hr0z4 ?hQ0z4 ?hy0z4 hHeld ?r0z4
          case hi0z4 => (simp only [List.getElem?_toArray, List.getElem?_cons_zero, List.getElem?_cons_succ]; rfl)
          case hr0z4 => kernel_rfl
          case hQ0z4 => exact fun _ _ _ h => h
          case hy0z4 => (refine Or.inl ⟨by rfl, ?_⟩; intro w hSw; (try dsimp only at hSw); go_simp; try with_reducible rfl)
          try simp only [Act.put, List.setIfInBounds_toArray, List.set_cons_zero, List.set_cons_succ]
          refine wpAnyH_take (i := 1) (oi := ?o1z4) (v := ?v1z4) ?hi1z4 (by kernel_rfl) (by kernel_rfl) ?hr1z4 ?hQ1z4 ?hy1z4 hHeld ?r1z4
          case hi1z4 => (simp only [List.getElem?_toArray, List.getElem?_cons_zero, List.getElem?_cons_succ]; rfl)
          case hr1z4 => kernel_rfl
          case hQ1z4 => exact fun _ _ _ h => h
          case hy1z4 => (refine Or.inl ⟨by rfl, ?_⟩; intro w hSw; (try dsimp only at hSw); go_simp; try with_reducible rfl)
          try simp only [Act.put, List.setIfInBounds_toArray, List.set_cons_zero, List.set_cons_succ]
          refine wpAnyH_take (i := 2) (oi := ?o2z4) (v := ?v2z4) ?hi2z4 (by kernel_rfl) (by kernel_rfl) ?hr2z4 ?hQ2z4 ?hy2z4 hHeld ?r2z4
          case hi2z4 => (simp only [List.getElem?_toArray, List.getElem?_cons_zero, List.getElem?_cons_succ]; rfl)
          case hr2z4 => kernel_rfl
          case hQ2z4 => exact fun _ _ _ h => h
          case hy2z4 => (refine Or.inl ⟨by rfl, ?_⟩; intro w hSw; (try dsimp only at hSw); go_simp; try with_reducible rfl)
          try simp only [Act.put, List.setIfInBounds_toArray, List.set_cons_zero, List.set_cons_succ]
          refine wpAnyH_take (i := 3) (oi := ?o3z4) (v := ?v3z4) ?hi3z4 (by kernel_rfl) (by kernel_rfl) ?hr3z4 ?hQ3z4 ?hy3z4 hHeld ?r3z4
          case hi3z4 => (simp only [List.getElem?_toArray, List.getElem?_cons_zero, List.getElem?_cons_succ]; rfl)
          case hr3z4 => kernel_rfl
          case hQ3z4 => exact fun _ _ _ h => h
          case hy3z4 => (refine Or.inl ⟨by rfl, ?_⟩; intro w hSw; (try dsimp only at hSw); go_simp; try with_reducible rfl)
          try simp only [Act.put, List.setIfInBounds_toArray, List.set_cons_zero, List.set_cons_succ]
          refine wpAnyH_take (i := 4) (oi := ?o4z4) (v := ?v4z4) ?hi4z4 (by kernel_rfl) (by kernel_rfl) ?hr4z4 ?hQ4z4 ?hy4z4 hHeld ?r4z4
          case hi4z4 => (simp only [List.getElem?_toArray, List.getElem?_cons_zero, List.getElem?_cons_succ]; rfl)
          case hr4z4 => kernel_rfl
          case hQ4z4 => exact fun _ _ _ h => h
          case hy4z4 => (refine Or.inl ⟨by rfl, ?_⟩; intro w hSw; (try dsimp only at hSw); go_simp; try with_reducible rfl)
          try simp only [Act.put, List.setIfInBounds_toArray, List.set_cons_zero, List.set_cons_succ]
          refine wpAnyH_take (i := 5) (oi := ?o5z4) (v := ?v5z4) ?hi5z4 (by kernel_rfl) (by kernel_rfl) ?hr5z4 ?hQ5z4 ?hy5z4 hHeld ?r5z4
          case hi5z4 => (simp only [List.getElem?_toArray, List.getElem?_cons_zero, List.getElem?_cons_succ]; rfl)
          case hr5z4 => kernel_rfl
          case hQ5z4 => exact fun _ _ _ h => h
          case hy5z4 => (refine Or.inl ⟨by rfl, ?_⟩; intro w hSw; (try dsimp only at hSw); go_simp; try with_reducible rfl)
          try simp only [Act.put, List.setIfInBounds_toArray, List.set_cons_zero, List.set_cons_succ]
          refine wpAnyH_take (i := 6) (oi := ?o6z4) (v := ?v6z4) ?hi6z4 (by kernel_rfl) (by kernel_rfl) ?hr6z4 ?hQ6z4 ?hy6z4 hHeld ?r6z4
          case hi6z4 => (simp only [List.getElem?_toArray, List.getElem?_cons_zero, List.getElem?_cons_succ]; rfl)
          case hr6z4 => kernel_rfl
          case hQ6z4 => exact fun _ _ _ h => h
          case hy6z4 => (refine Or.inl ⟨by rfl, ?_⟩; intro w hSw; (try dsimp only at hSw); go_simp; try with_reducible rfl)
          try simp only [Act.put, List.setIfInBounds_toArray, List.set_cons_zero, List.set_cons_succ]
          refine wpAnyH_take (i := 7) (oi := ?o7z4) (v := ?v7z4) ?hi7z4 (by kernel_rfl) (by kernel_rfl) ?hr7z4 ?hQ7z4 ?hy7z4 hHeld ?r7z4
          case hi7z4 => (simp only [List.getElem?_toArray, List.getElem?_cons_zero, List.getElem?_cons_succ]; rfl)
          case hr7z4 => kernel_rfl
          case hQ7z4 => exact fun _ _ _ h => h
          case hy7z4 => (refine Or.inl ⟨by rfl, ?_⟩; intro w hSw; (try dsimp only at hSw); go_simp; try with_reducible rfl)
          try simp only [Act.put, List.setIfInBounds_toArray, List.set_cons_zero, List.set_cons_succ]
          refine wpAnyH_take (i := 8) (oi := ?o8z4) (v := ?v8z4) ?hi8z4 (by kernel_rfl) (by kernel_rfl) ?hr8z4 ?hQ8z4 ?hy8z4 hHeld ?r8z4
          case hi8z4 => (simp only [List.getElem?_toArray, List.getElem?_cons_zero, List.getElem?_cons_succ]; rfl)
          case hr8z4 => kernel_rfl
          case hQ8z4 => exact fun _ _ _ h => h
          case hy8z4 => (refine Or.inl ⟨by rfl, ?_⟩; intro w hSw; (try dsimp only at hSw); go_simp; try with_reducible rfl)
          try simp only [Act.put, List.setIfInBounds_toArray, List.set_cons_zero, List.set_cons_succ]
          refine wpAnyH_take (i := 9) (oi := ?o9z4) (v := ?v9z4) ?hi9z4 (by kernel_rfl) (by kernel_rfl) ?hr9z4 ?hQ9z4 ?hy9z4 hHeld ?r9z4
          case hi9z4 => (simp only [List.getElem?_toArray, List.getElem?_cons_zero, List.getElem?_cons_succ]; rfl)
          case hr9z4 => kernel_rfl
          case hQ9z4 => exact fun _ _ _ h => h
          case hy9z4 => (refine Or.inl ⟨by rfl, ?_⟩; intro w hSw; (try dsimp only at hSw); go_simp; try with_reducible rfl)
          try simp only [Act.put, List.setIfInBounds_toArray, List.set_cons_zero, List.set_cons_succ]
          refine wpAnyH_take (i := 10) (oi := ?o10z4) (v := ?v10z4) ?hi10z4 (by kernel_rfl) (by kernel_rfl) ?hr10z4 ?hQ10z4 ?hy10z4 hHeld ?r10z4
          case hi10z4 => (simp only [List.getElem?_toArray, List.getElem?_cons_zero, List.getElem?_cons_succ]; rfl)
          case hr10z4 => kernel_rfl
          case hQ10z4 => exact fun _ _ _ h => h
          case hy10z4 => (refine Or.inl ⟨by rfl, ?_⟩; intro w hSw; (try dsimp only at hSw); go_simp; try with_reducible rfl)
          try simp only [Act.put, List.setIfInBounds_toArray, List.set_cons_zero, List.set_cons_succ]
          refine wpAnyH_take (i := 11) (oi := ?o11z4) (v := ?v11z4) ?hi11z4 (by kernel_rfl) (by kernel_rfl) ?hr11z4 ?hQ11z4 ?hy11z4 hHeld ?r11z4
          case hi11z4 => (simp only [List.getElem?_toArray, List.getElem?_cons_zero, List.getElem?_cons_succ]; rfl)
          case hr11z4 => kernel_rfl
          case hQ11z4 => exact fun _ _ _ h => h
          case hy11z4 => (refine Or.inl ⟨by rfl, ?_⟩; intro w hSw; (try dsimp only at hSw); go_simp; try with_reducible rfl)
          try simp only [Act.put, List.setIfInBounds_toArray, List.set_cons_zero, List.set_cons_succ]
          refine wpAnyH_take (i := 12) (oi := ?o12z4) (v := ?v12z4) ?hi12z4 (by kernel_rfl) (by kernel_rfl) ?hr12z4 ?hQ12z4 ?hy12z4 hHeld ?r12z4
          case hi12z4 => (simp only [List.getElem?_toArray, List.getElem?_cons_zero, List.getElem?_cons_succ]; rfl)
          case hr12z4 => kernel_rfl
          case hQ12z4 => exact fun _ _ _ h => h
          case hy12z4 => (refine Or.inl ⟨by rfl, ?_⟩; intro w hSw; (try dsimp only at hSw); go_simp; try with_reducible rfl)
          try simp only [Act.put, List.setIfInBounds_toArray, List.set_cons_zero, List.set_cons_succ]
          refine wpAnyH_take (i := 13) (oi := ?o13z4) (v := ?v13z4) ?hi13z4 (by kernel_rfl) (by kernel_rfl) ?hr13z4 ?hQ13z4 ?hy13z4 hHeld ?r13z4
          case hi13z4 => (simp only [List.getElem?_toArray, List.getElem?_cons_zero, List.getElem?_cons_succ]; rfl)
          case hr13z4 => kernel_rfl
          case hQ13z4 => exact fun _ _ _ h => h
          case hy13z4 => (refine Or.inl ⟨by rfl, ?_⟩; intro w hSw; (try dsimp only at hSw); go_simp; try with_reducible rfl)
          try simp only [Act.put, List.setIfInBounds_toArray, List.set_cons_zero, List.set_cons_succ]
          refine wpAnyH_take (i := 14) (oi := ?o14z4) (v := ?v14z4) ?hi14z4 (by kernel_rfl) (by kernel_rfl) ?hr14z4 ?hQ14z4 ?hy14z4 hHeld ?r14z4
          case hi14z4 => (simp only [List.getElem?_toArray, List.getElem?_cons_zero, List.getElem?_cons_succ]; rfl)
          case hr14z4 => kernel_rfl
          case hQ14z4 => exact fun _ _ _ h => h
          case hy14z4 => (refine Or.inl ⟨by rfl, ?_⟩; intro w hSw; (try dsimp only at hSw); go_simp; try with_reducible rfl)
          try simp only [Act.put, List.setIfInBounds_toArray, List.set_cons_zero, List.set_cons_succ]
          refine wpAnyH_done (by kernel_rfl) ?_ _
          go_wp2
          go_ret
          exact ⟨by rw [HF.out]; rfl, below_drw HBB.out⟩
      · have hm2 : ¬ ((k : Int) % 512 < 8) := by omega
        have HM := hid hm
        clear hrr hor hbb hall x0 y0 x1 hL hb'
        go_wp2_with fail
        have hm5 : ((k : Int) % 512 < 8) = False := by simpa using hm2
        refine wp_region_held_drew (S := fun _ => True) (by kernel_rfl) (by trivial) (fun hHeld => ?_)
        refine wpAnyH_take (i := 0) (oi := ?o0z2) (v := ?v0z2) ?hi0z2 (by kernel_rfl) (by kernel_rfl) ?hr0z2 ?hQ0z2 ?hy0z2 hHeld ?r0z2
        case hi0z2 => (simp only [List.getElem?_toArray, List.getElem?_cons_zero, List.getElem?_cons_succ]; rfl)
        case hr0z2 => kernel_rfl
        case hQ0z2 => exact fun _ _ _ h => h
        case hy0z2 => (refine Or.inl ⟨by rfl, ?_⟩; intro w hSw; (try dsimp only at hSw); go_simp; try with_reducible rfl)
        try simp only [Act.put, List.setIfInBounds_toArray, List.set_cons_zero, List.set_cons_succ]
        refine wpAnyH_take (i := 1) (oi := ?o1z2) (v := ?v1z2) ?hi1z2 (by kernel_rfl) (by kernel_rfl) ?hr1z2 ?hQ1z2 ?hy1z2 hHeld ?r1z2
        case hi1z2 => (simp only [List.getElem?_toArray, List.getElem?_cons_zero, List.getElem?_cons_succ]; rfl)
        case hr1z2 => kernel_rfl
        case hQ1z2 => exact fun _ _ _ h => h
        case hy1z2 => (refine Or.inl ⟨by rfl, ?_⟩; intro w hSw; (try dsimp only at hSw); go_simp; try with_reducible rfl)
        try simp only [Act.put, List.setIfInBounds_toArray, List.set_cons_zero, List.set_cons_succ]
        refine wpAnyH_take (i := 2) (oi := ?o2z2) (v := ?v2z2) ?hi2z2 (by kernel_rfl) (by kernel_rfl) ?hr2z2 ?hQ2z2 ?hy2z2 hHeld ?r2z2
        case hi2z2 => (simp only [List.getElem?_toArray, List.getElem?_cons_zero, List.getElem?_cons_succ]; rfl)
        case hr2z2 => kernel_rfl
        case hQ2z2 => exact fun _ _ _ h => h
        case hy2z2 => (refine Or.inl ⟨by rfl, ?_⟩; intro w hSw; (try dsimp only at hSw); go_simp; try with_reducible rfl)
        try simp only [Act.put, List.setIfInBounds_toArray, List.set_cons_zero, List.set_cons_succ]
        refine wpAnyH_take (i := 3) (oi := ?o3z2) (v := ?v3z2) ?hi3z2 (by kernel_rfl) (by kernel_rfl) ?hr3z2 ?hQ3z2 ?hy3z2 hHeld ?r3z2
        case hi3z2 => (simp only [List.getElem?_toArray, List.getElem?_cons_zero, List.getElem?_cons_succ]; rfl)
        case hr3z2 => kernel_rfl
        case hQ3z2 => exact fun _ _ _ h => h
        case hy3z2 => (refine Or.inl ⟨by rfl, ?_⟩; intro w hSw; (try dsimp only at hSw); go_simp; try with_reducible rfl)
        try simp only [Act.put, List.setIfInBounds_toArray, List.set_cons_zero, List.set_cons_succ]
        refine wpAnyH_take (i := 4) (oi := ?o4z2) (v := undef) ?hi4z2 (by kernel_rfl) (by kernel_rfl) ?hr4z2 ?hQ4z2 ?hy4z2 hHeld ?r4z2
        case hi4z2 => (simp only [List.getElem?_toArray, List.getElem?_cons_zero, List.getElem?_cons_succ]; rfl)
        case hr4z2 => kernel_rfl
        case hQ4z2 => exact fun _ _ _ h => h
        case hy4z2 => exact Or.inr ⟨by rfl, rfl⟩
        try simp only [Act.put, List.setIfInBounds_toArray, List.set_cons_zero, List.set_cons_succ]
        refine wpAnyH_take (i := 5) (oi := ?o5z2) (v := undef) ?hi5z2 (by kernel_rfl) (by kernel_rfl) ?hr5z2 ?hQ5z2 ?hy5z2 hHeld ?r5z2
        case hi5z2 => (simp only [List.getElem?_toArray, List.getElem?_cons_zero, List.getElem?_cons_succ]; rfl)
        case hr5z2 => kernel_rfl
        case hQ5z2 => exact fun _ _ _ h => h
        case hy5z2 => exact Or.inr ⟨by rfl, rfl⟩
        try simp only [Act.put, List.setIfInBounds_toArray, List.set_cons_zero, List.set_cons_succ]
        refine wpAnyH_take (i := 6) (oi := ?o6z2) (v := undef) ?hi6z2 (by kernel_rfl) (by kernel_rfl) ?hr6z2 ?hQ6z2 ?hy6z2 hHeld ?r6z2
        case hi6z2 => (simp only [List.getElem?_toArray, List.getElem?_cons_zero, List.getElem?_cons_succ]; rfl)
        case hr6z2 => kernel_rfl
        case hQ6z2 => exact fun _ _ _ h => h
        case hy6z2 => exact Or.inr ⟨by rfl, rfl⟩
        try simp only [Act.put, List.setIfInBounds_toArray, List.set_cons_zero, List.set_cons_succ]
        refine wpAnyH_take (i := 7) (oi := ?o7z2) (v := undef) ?hi7z2 (by kernel_rfl) (by kernel_rfl) ?hr7z2 ?hQ7z2 ?hy7z2 hHeld ?r7z2
        case hi7z2 => (simp only [List.getElem?_toArray, List.getElem?_cons_zero, List.getElem?_cons_succ]; rfl)
        case hr7z2 => kernel_rfl
        case hQ7z2 => exact fun _ _ _ h => h
        case hy7z2 => exact Or.inr ⟨by rfl, rfl⟩
        try simp only [Act.put, List.setIfInBounds_toArray, List.set_cons_zero, List.set_cons_succ]
        refine wpAnyH_take (i := 8) (oi := ?o8z2) (v := undef) ?hi8z2 (by kernel_rfl) (by kernel_rfl) ?hr8z2 ?hQ8z2 ?hy8z2 hHeld ?r8z2
        case hi8z2 => (simp only [List.getElem?_toArray, List.getElem?_cons_zero, List.getElem?_cons_succ]; rfl)
        case hr8z2 => kernel_rfl
        case hQ8z2 => exact fun _ _ _ h => h
        case hy8z2 => exact Or.inr ⟨by rfl, rfl⟩
        try simp only [Act.put, List.setIfInBounds_toArray, List.set_cons_zero, List.set_cons_succ]
        refine wpAnyH_take (i := 9) (oi := ?o9z2) (v := undef) ?hi9z2 (by kernel_rfl) (by kernel_rfl) ?hr9z2 ?hQ9z2 ?hy9z2 hHeld ?r9z2
        case hi9z2 => (simp only [List.getElem?_toArray, List.getElem?_cons_zero, List.getElem?_cons_succ]; rfl)
        case hr9z2 => kernel_rfl
        case hQ9z2 => exact fun _ _ _ h => h
        case hy9z2 => exact Or.inr ⟨by rfl, rfl⟩
        try simp only [Act.put, List.setIfInBounds_toArray, List.set_cons_zero, List.set_cons_succ]
        refine wpAnyH_take (i := 10) (oi := ?o10z2) (v := undef) ?hi10z2 (by kernel_rfl) (by kernel_rfl) ?hr10z2 ?hQ10z2 ?hy10z2 hHeld ?r10z2
        case hi10z2 => (simp only [List.getElem?_toArray, List.getElem?_cons_zero, List.getElem?_cons_succ]; rfl)
        case hr10z2 => kernel_rfl
        case hQ10z2 => exact fun _ _ _ h => h
        case hy10z2 => exact Or.inr ⟨by rfl, rfl⟩
        try simp only [Act.put, List.setIfInBounds_toArray, List.set_cons_zero, List.set_cons_succ]
        refine wpAnyH_take (i := 11) (oi := ?o11z2) (v := undef) ?hi11z2 (by kernel_rfl) (by kernel_rfl) ?hr11z2 ?hQ11z2 ?hy11z2 hHeld ?r11z2
        case hi11z2 => (simp only [List.getElem?_toArray, List.getElem?_cons_zero, List.getElem?_cons_succ]; rfl)
        case hr11z2 => kernel_rfl
        case hQ11z2 => exact fun _ _ _ h => h
        case hy11z2 => exact Or.inr ⟨by rfl, rfl⟩
        try simp only [Act.put, List.setIfInBounds_toArray, List.set_cons_zero, List.set_cons_succ]
        refine wpAnyH_take (i := 12) (oi := ?o12z2) (v := undef) ?hi12z2 (by kernel_rfl) (by kernel_rfl) ?hr12z2 ?hQ12z2 ?hy12z2 hHeld ?r12z2
        case hi12z2 => (simp only [List.getElem?_toArray, List.getElem?_cons_zero, List.getElem?_cons_succ]; rfl)
        case hr12z2 => kernel_rfl
        case hQ12z2 => exact fun _ _ _ h => h
        case hy12z2 => exact Or.inr ⟨by rfl, rfl⟩
        try simp only [Act.put, List.setIfInBounds_toArray, List.set_cons_zero, List.set_cons_succ]
        refine wpAnyH_take (i := 13) (oi := ?o13z2) (v := undef) ?hi13z2 (by kernel_rfl) (by kernel_rfl) ?hr13z2 ?hQ13z2 ?hy13z2 hHeld ?r13z2
        case hi13z2 => (simp only [List.getElem?_toArray, List.getElem?_cons_zero, List.getElem?_cons_succ]; rfl)
        case hr13z2 => kernel_rfl
        case hQ13z2 => exact fun _ _ _ h => h
        case hy13z2 => exact Or.inr ⟨by rfl, rfl⟩
        try simp only [Act.put, List.setIfInBounds_toArray, List.set_cons_zero, List.set_cons_succ]
        refine wpAnyH_take (i := 14) (oi := ?o14z2) (v := ?v14z2) ?hi14z2 (by kernel_rfl) (by kernel_rfl) ?hr14z2 ?hQ14z2 ?hy14z2 hHeld ?r14z2
        case hi14z2 => (simp only [List.getElem?_toArray, List.getElem?_cons_zero, List.getElem?_cons_succ]; rfl)
        case hr14z2 => kernel_rfl
        case hQ14z2 => exact fun _ _ _ h => h
        case hy14z2 => (refine Or.inl ⟨by rfl, ?_⟩; intro w hSw; (try dsimp only at hSw); go_simp; try with_reducible rfl)
        try simp only [Act.put, List.setIfInBounds_toArray, List.set_cons_zero, List.set_cons_succ]
        refine wpAnyH_done (by kernel_rfl) ?_ _
        go_wp2_with fail
        go_roundw
        case rel =>
          refine ⟨k + 1, by omega, by go_num, below_drw HB'.out, fun j hj hjm => ?_⟩
          by_cases e : j = k
          · subst e
            exact absurd hjm HM.out
          · exact HALL.out j (by omega) hjm
        case measure => simp [intOf]; omega
    · obtain rfl : k = 4096 := by omega
      have HT : Hid (stmpD l (E : Int) (Q : Int) = true) := hid (by
        rw [HY.out]
        exact decide_eq_true hall)
      clear hrr hor hbb hall hL hb'
      go_wp2
      go_ret
      exact ⟨by rw [HT.out]; rfl, HBB.out⟩
end Go.Proofs.Ytknhfaplddgnlaa
