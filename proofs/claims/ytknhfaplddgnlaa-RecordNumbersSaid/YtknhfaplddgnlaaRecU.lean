/- The document's Head (printed by gen06l.py). -/
import Derived.Test.YtknhfaplddgnlaaRecT
namespace Go.Proofs.Ytknhfaplddgnlaa
open Go.RowKit
set_option maxHeartbeats 1000000
set_option maxRecDepth 100000
set_option linter.unusedVariables false
set_option linter.unusedSimpArgs false

theorem refHeadF_any (w : World) (a : Option Addr) (N c : Nat) (l : List UInt8) (hN : N = l.length) (hc : l.length ≤ c ∧ c ≤ 9223372036854775807) (hr : RdB w a l) :
    Calls Try.prog 24 #[.slice a N c] w fun e w' => e = .returned (.tuple #[.int .i64 (hdE l : Int), .int .i64 (hdQ l : Int), .int .i64 (hdN l : Int), .bool (isHead l)]) ∧ Below w.heap.size w w' := by
  have HD := read_any w a N c l hN hc hr
  unfold RfPost at HD
  clear hN hc hr
  unfold hdE hdQ hdN
  cases hh : isHead l with
  | false =>
    rw [hh] at HD
    clear hh
    simp only [Bool.false_eq_true, if_false]
    go_enter Try.func24, Try.ntmps24
    go_wp2_with fail
    refine HD.mono ?_
    rintro e w1 ⟨b1, ep, seq, ia, im, ic, rfl, -⟩
    clear HD
    go_wp2
    refine bodyPost_ret (v := .tuple #[.int .i64 0, .int .i64 0, .int .i64 0, .bool false]) ?_ rfl ⟨rfl, b1.alloc b1.size _⟩
    simp [results, Try.results24, go_sem]
  | true =>
    rw [hh] at HD
    clear hh
    simp only [if_true]
    go_enter Try.func24, Try.ntmps24
    go_wp2_with fail
    refine HD.mono ?_
    rintro e w1 ⟨b1, ep, seq, ia, im, ic, rfl, hyes⟩
    clear HD
    obtain ⟨rfl, rfl, rfl, -⟩ := hyes trivial
    clear hyes
    have hrow := heap_alloc_new w1 (.cells #[.int .i64 (epOf l : Int), .int .i64 (seqOf l : Int), .slice ia (nOf (gathB l)) ic] 28)
    obtain ⟨x0, x1, x2⟩ := cells3 hrow
    have sX : (w1.alloc (.cells #[.int .i64 (epOf l : Int), .int .i64 (seqOf l : Int), .slice ia (nOf (gathB l)) ic] 28)).drew.cell? ⟨w1.heap.size, 0, none⟩ = some (.int .i64 (epOf l : Int)) ∧ (w1.alloc (.cells #[.int .i64 (epOf l : Int), .int .i64 (seqOf l : Int), .slice ia (nOf (gathB l)) ic] 28)).drew.cell? ⟨w1.heap.size, 1, none⟩ = some (.int .i64 (seqOf l : Int)) ∧ (w1.alloc (.cells #[.int .i64 (epOf l : Int), .int .i64 (seqOf l : Int), .slice ia (nOf (gathB l)) ic] 28)).drew.cell? ⟨w1.heap.size, 2, none⟩ = some (.slice ia (nOf (gathB l)) ic) := ⟨x0, x1, x2⟩
    clear hrow x0 x1 x2
    go_wp2_with fail
    refine wp_region_held_drew (S := fun W1 => W1.cell? ⟨w1.heap.size, 0, none⟩ = some (.int .i64 (epOf l : Int)) ∧ W1.cell? ⟨w1.heap.size, 1, none⟩ = some (.int .i64 (seqOf l : Int)) ∧ W1.cell? ⟨w1.heap.size, 2, none⟩ = some (.slice ia (nOf (gathB l)) ic)) (by kernel_rfl) (by exact sX) (fun hHeld => ?_)
    refine wpAnyH_take (i := 0) (oi := ?o0z1) (v := ?v0z1) ?hi0z1 (by kernel_rfl) (by kernel_rfl) ?hr0z1 ?hQ0z1 ?hy0z1 hHeld ?r0z1
    case hi0z1 => (simp only [List.getElem?_toArray, List.getElem?_cons_zero, List.getElem?_cons_succ]; rfl)
    case hr0z1 => kernel_rfl
    case hQ0z1 => exact fun _ _ _ h => h
    case hy0z1 => (refine Or.inl ⟨by rfl, ?_⟩; intro w hSw; (try dsimp only at hSw); go_simp; try with_reducible rfl)
    try simp only [Act.put, List.setIfInBounds_toArray, List.set_cons_zero, List.set_cons_succ]
    refine wpAnyH_take (i := 1) (oi := ?o1z1) (v := ?v1z1) ?hi1z1 (by kernel_rfl) (by kernel_rfl) ?hr1z1 ?hQ1z1 ?hy1z1 hHeld ?r1z1
    case hi1z1 => (simp only [List.getElem?_toArray, List.getElem?_cons_zero, List.getElem?_cons_succ]; rfl)
    case hr1z1 => kernel_rfl
    case hQ1z1 => exact fun _ _ _ h => h
    case hy1z1 => (refine Or.inl ⟨by rfl, ?_⟩; intro w hSw; (try dsimp only at hSw); go_simp; try with_reducible rfl)
    try simp only [Act.put, List.setIfInBounds_toArray, List.set_cons_zero, List.set_cons_succ]
    refine wpAnyH_take (i := 2) (oi := ?o2z1) (v := ?v2z1) ?hi2z1 (by kernel_rfl) (by kernel_rfl) ?hr2z1 ?hQ2z1 ?hy2z1 hHeld ?r2z1
    case hi2z1 => (simp only [List.getElem?_toArray, List.getElem?_cons_zero, List.getElem?_cons_succ]; rfl)
    case hr2z1 => kernel_rfl
    case hQ2z1 => exact fun _ _ _ h => h
    case hy2z1 => (refine Or.inl ⟨by rfl, ?_⟩; intro w hSw; (try dsimp only at hSw); go_simp; try with_reducible rfl)
    try simp only [Act.put, List.setIfInBounds_toArray, List.set_cons_zero, List.set_cons_succ]
    refine wpAnyH_take (i := 3) (oi := ?o3z1) (v := ?v3z1) ?hi3z1 (by kernel_rfl) (by kernel_rfl) ?hr3z1 ?hQ3z1 ?hy3z1 hHeld ?r3z1
    case hi3z1 => (simp only [List.getElem?_toArray, List.getElem?_cons_zero, List.getElem?_cons_succ]; rfl)
    case hr3z1 => kernel_rfl
    case hQ3z1 => exact fun _ _ _ h => h
    case hy3z1 => (refine Or.inl ⟨by rfl, ?_⟩; intro w hSw; (try dsimp only at hSw); go_simp; try with_reducible rfl)
    try simp only [Act.put, List.setIfInBounds_toArray, List.set_cons_zero, List.set_cons_succ]
    refine wpAnyH_take (i := 4) (oi := ?o4z1) (v := ?v4z1) ?hi4z1 (by kernel_rfl) (by kernel_rfl) ?hr4z1 ?hQ4z1 ?hy4z1 hHeld ?r4z1
    case hi4z1 => (simp only [List.getElem?_toArray, List.getElem?_cons_zero, List.getElem?_cons_succ]; rfl)
    case hr4z1 => kernel_rfl
    case hQ4z1 => exact fun _ _ _ h => h
    case hy4z1 => (refine Or.inl ⟨by rfl, ?_⟩; intro w hSw; (try dsimp only at hSw); go_simp; try with_reducible rfl)
    try simp only [Act.put, List.setIfInBounds_toArray, List.set_cons_zero, List.set_cons_succ]
    refine wpAnyH_take (i := 5) (oi := ?o5z1) (v := ?v5z1) ?hi5z1 (by kernel_rfl) (by kernel_rfl) ?hr5z1 ?hQ5z1 ?hy5z1 hHeld ?r5z1
    case hi5z1 => (simp only [List.getElem?_toArray, List.getElem?_cons_zero, List.getElem?_cons_succ]; rfl)
    case hr5z1 => kernel_rfl
    case hQ5z1 => exact fun _ _ _ h => h
    case hy5z1 => (refine Or.inl ⟨by rfl, ?_⟩; intro w hSw; (try dsimp only at hSw); go_simp; try with_reducible rfl)
    try simp only [Act.put, List.setIfInBounds_toArray, List.set_cons_zero, List.set_cons_succ]
    refine wpAnyH_take (i := 6) (oi := ?o6z1) (v := ?v6z1) ?hi6z1 (by kernel_rfl) (by kernel_rfl) ?hr6z1 ?hQ6z1 ?hy6z1 hHeld ?r6z1
    case hi6z1 => (simp only [List.getElem?_toArray, List.getElem?_cons_zero, List.getElem?_cons_succ]; rfl)
    case hr6z1 => kernel_rfl
    case hQ6z1 => exact fun _ _ _ h => h
    case hy6z1 => (refine Or.inl ⟨by rfl, ?_⟩; intro w hSw; (try dsimp only at hSw); go_simp; try with_reducible rfl)
    try simp only [Act.put, List.setIfInBounds_toArray, List.set_cons_zero, List.set_cons_succ]
    refine wpAnyH_take (i := 7) (oi := ?o7z1) (v := ?v7z1) ?hi7z1 (by kernel_rfl) (by kernel_rfl) ?hr7z1 ?hQ7z1 ?hy7z1 hHeld ?r7z1
    case hi7z1 => (simp only [List.getElem?_toArray, List.getElem?_cons_zero, List.getElem?_cons_succ]; rfl)
    case hr7z1 => kernel_rfl
    case hQ7z1 => exact fun _ _ _ h => h
    case hy7z1 => (refine Or.inl ⟨by rfl, ?_⟩; intro w hSw; (try dsimp only at hSw); go_simp; try with_reducible rfl)
    try simp only [Act.put, List.setIfInBounds_toArray, List.set_cons_zero, List.set_cons_succ]
    refine wpAnyH_take (i := 8) (oi := ?o8z1) (v := ?v8z1) ?hi8z1 (by kernel_rfl) (by kernel_rfl) ?hr8z1 ?hQ8z1 ?hy8z1 hHeld ?r8z1
    case hi8z1 => (simp only [List.getElem?_toArray, List.getElem?_cons_zero, List.getElem?_cons_succ]; rfl)
    case hr8z1 => kernel_rfl
    case hQ8z1 => exact fun _ _ _ h => h
    case hy8z1 => (refine Or.inl ⟨by rfl, ?_⟩; intro w hSw; (try dsimp only at hSw); go_simp; try with_reducible rfl)
    try simp only [Act.put, List.setIfInBounds_toArray, List.set_cons_zero, List.set_cons_succ]
    refine wpAnyH_take (i := 9) (oi := ?o9z1) (v := ?v9z1) ?hi9z1 (by kernel_rfl) (by kernel_rfl) ?hr9z1 ?hQ9z1 ?hy9z1 hHeld ?r9z1
    case hi9z1 => (simp only [List.getElem?_toArray, List.getElem?_cons_zero, List.getElem?_cons_succ]; rfl)
    case hr9z1 => kernel_rfl
    case hQ9z1 => exact fun _ _ _ h => h
    case hy9z1 => (refine Or.inl ⟨by rfl, ?_⟩; intro w hSw; (try dsimp only at hSw); go_simp; try with_reducible rfl)
    try simp only [Act.put, List.setIfInBounds_toArray, List.set_cons_zero, List.set_cons_succ]
    refine wpAnyH_take (i := 10) (oi := ?o10z1) (v := ?v10z1) ?hi10z1 (by kernel_rfl) (by kernel_rfl) ?hr10z1 ?hQ10z1 ?hy10z1 hHeld ?r10z1
    case hi10z1 => (simp only [List.getElem?_toArray, List.getElem?_cons_zero, List.getElem?_cons_succ]; rfl)
    case hr10z1 => kernel_rfl
    case hQ10z1 => exact fun _ _ _ h => h
    case hy10z1 => (refine Or.inl ⟨by rfl, ?_⟩; intro w hSw; (try dsimp only at hSw); go_simp; try with_reducible rfl)
    try simp only [Act.put, List.setIfInBounds_toArray, List.set_cons_zero, List.set_cons_succ]
    refine wpAnyH_done (by kernel_rfl) ?_ _
    go_wp2
    refine bodyPost_ret (v := .tuple #[.int .i64 (epOf l : Int), .int .i64 (seqOf l : Int), .int .i64 (nOf (gathB l) : Int), .bool true]) ?_ rfl ⟨rfl, below_drw (b1.alloc b1.size _)⟩
    simp [results, Try.results24, go_sem]
end Go.Proofs.Ytknhfaplddgnlaa
