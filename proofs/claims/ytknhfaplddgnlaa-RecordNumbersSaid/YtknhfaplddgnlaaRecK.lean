/- record.head whole, Head, Get (printed by gen06e.py). -/
import Derived.Test.YtknhfaplddgnlaaRecJ
import Derived.Test.YtknhfaplddgnlaaRecM
namespace Go.Proofs.Ytknhfaplddgnlaa
open Go.RowKit
set_option maxHeartbeats 1000000
set_option maxRecDepth 100000
set_option linter.unusedVariables false
set_option linter.unusedSimpArgs false

theorem head_n (w : World) (a : Option Addr) (N c : Nat) (l : List UInt8) (hN : N = l.length) (hc : l.length ≤ c ∧ c ≤ 9223372036854775807) (hr : RdB w a l)
    (hS : stmpD l (epOf l : Int) (seqOf l : Int) = true) (hn : ¬ (1 ≤ nOf (gathB l) ∧ nOf (gathB l) ≤ 32)) :
    Calls Try.prog 37 #[.slice a N c] w (HdPost w l) := by
  subst hN
  obtain ⟨hs1, hs2, hs3, hs4, hs5⟩ := of_decide_eq_true hS
  have hl : l.length = 4096 := hs5.1
  have hok : numOk l 0 8 = true := by simp [numOk, hl]
  have hlt : numV l 0 8 < 18446744073709551616 := numV_lt l 0 8
  have hm := and_mask (numV l 0 8) hlt
  have hE : ((numV l 0 8 : Nat) : Int) / 1099511627776 = (epOf l : Int) := by unfold epOf; omega
  have hQ : ((numV l 0 8 : Nat) : Int) % 1099511627776 = (seqOf l : Int) := by unfold seqOf; omega
  rw [hQ] at hm
  have HH := hid (isHead_no l (.inr (.inr hn)))
  have U := fun W (h : RdB W a l) => U64_any W a c l.length l rfl 0 (by omega) h (by omega)
  have hb2 : Below w.heap.size w ((w.alloc (.cells #[.int .i64 0, .int .i64 0, .slice none 0 0] 28)).alloc (.cells #[.int .i64 (epOf l : Int), .int .i64 (seqOf l : Int), .slice none 0 0] 28)) := ((Below.refl _ _).alloc (Nat.le_refl _) _).alloc (by simp) _
  have hR2 : ((w.alloc (.cells #[.int .i64 0, .int .i64 0, .slice none 0 0] 28)).alloc (.cells #[.int .i64 (epOf l : Int), .int .i64 (seqOf l : Int), .slice none 0 0] 28)).heap[w.heap.size]? = some (.cells #[.int .i64 0, .int .i64 0, .slice none 0 0] 28 (0, 0)) :=
    (Below.heap_alloc _ _ _ (by simp)).trans (heap_alloc_new w _)
  have hG2 : ((w.alloc (.cells #[.int .i64 0, .int .i64 0, .slice none 0 0] 28)).alloc (.cells #[.int .i64 (epOf l : Int), .int .i64 (seqOf l : Int), .slice none 0 0] 28)).heap[w.heap.size + 1]? = some (.cells #[.int .i64 (epOf l : Int), .int .i64 (seqOf l : Int), .slice none 0 0] 28 (0, 0)) := by
    have := heap_alloc_new (w.alloc (.cells #[.int .i64 0, .int .i64 0, .slice none 0 0] 28)) (.cells #[.int .i64 (epOf l : Int), .int .i64 (seqOf l : Int), .slice none 0 0] 28)
    rwa [World.size_alloc] at this
  have HS := Stamped_any _ a c l.length l rfl hc (hr.below hb2) (epOf l : Int) (seqOf l : Int)
  rw [hS] at HS
  rw [hok] at U
  have hinn := gathB_length hl
  have hx0 : nOf (gathB l) < 65536 := numV_lt _ _ _
  cases a with
  | none =>
    obtain ⟨_, _, e, _⟩ := hr.at_ (by intro e; rw [e] at hl; exact absurd hl (by decide))
    cases e
  | some ad =>
  obtain ⟨b, off, e0, -⟩ := hr.at_ (by intro e; rw [e] at hl; exact absurd hl (by decide))
  have e0' := Option.some.inj e0
  subst e0'
  have GA := fun W h => gathered_any W b off c l hl h (by omega)
  have BL := fun W => Blocks_any W ((nOf (gathB l) : Nat) : Int)
  have U16n := fun W gi ci h => U16_any W (some ⟨gi, 0, none⟩) ci 4032 (gathB l) hinn.symm 0 (by omega) h (by omega)
  have hok0 : numOk (gathB l) 0 2 = true := by simp [numOk, hinn]
  rw [hok0] at U16n
  have hnn : numV (gathB l) 0 2 = nOf (gathB l) := rfl
  rw [hnn] at U16n
  have hif : (if 1 ≤ ((nOf (gathB l) : Nat) : Int) ∧ ((nOf (gathB l) : Nat) : Int) ≤ 32 then ((nOf (gathB l) : Nat) : Int) + 1 else 0) = 0 := if_neg (by omega)
  simp only [hif] at BL
  have HHL := hid (show l.length = 4096 from hl)
  rw [hl] at HS U
  simp only [hl]
  generalize gathB l = inn at *
  generalize nOf inn = n at *
  generalize numV l 0 8 = nn at *
  generalize epOf l = E at *
  generalize seqOf l = Q at *
  clear hok0 hnn hS hlt hok hl hif hn hinn
  go_enter Try.func37, Try.ntmps37
  go_wp2_with fail
  refine (U _ (hr.below ((Below.refl _ _).alloc (Nat.le_refl _) _))).mono ?_
  rintro e w' ⟨rfl, rfl⟩
  go_wp2_with fail
  refine HS.mono ?_
  rintro e w3 ⟨rfl, b3⟩
  have hb3 := hb2.trans (b3.mono hb2.size)
  have hR3 := (b3.block _ (heap_in hR2)).trans hR2
  have hG3 := (b3.block _ (heap_in hG2)).trans hG2
  have hr3 := hr.below hb3
  clear HS hb2 hR2 hG2 U b3 hr
  go_wp2_with fail
  refine (GA _ hr3).mono ?_
  rintro e w5 ⟨gi, ci, rfl, hi, b5⟩
  have hb5 := hb3.trans (b5.mono hb3.size)
  have hR5 := (b5.block _ (heap_in hR3)).trans hR3
  have hG5 := (b5.block _ (heap_in hG3)).trans hG3
  clear GA hb3 hR3 hG3 b5 hr3
  go_wp2_with fail
  refine (U16n _ _ _ hi.rd).mono ?_
  rintro e w' ⟨rfl, rfl⟩
  clear U16n
  go_wp2_with fail
  refine (BL _).mono ?_
  rintro e w' ⟨rfl, rfl⟩
  clear BL
  obtain ⟨z0, z1, z2⟩ := cells3 hG5
  obtain ⟨y0, y1, y2⟩ := cells3 hR5
  have f0 := frozen_of_row _ w.heap.size 0 _ _ hR5
  have f1 := frozen_of_row _ w.heap.size 1 _ _ hR5
  have f2 := frozen_of_row _ w.heap.size 2 _ _ hR5
  have hs4 := hid (set3 hR5 (.int .i64 (E : Int)) (.int .i64 (Q : Int)) (.slice none 0 0))
  have HB5 := hid hb5
  clear hR5 hG5 hb5 hi
  go_wp2
  obtain ⟨x0, x1, x2⟩ := cells3 hs4.out.1
  refine bodyPost_ret (v := .tuple #[.agg #[.int .i64 (E : Int), .int .i64 (Q : Int), .slice none 0 0], .slice none 0 0, .bool false]) ?_ rfl ⟨belowK HB5.out hs4.out.2 (fun b hb => by omega) HB5.out.size, E, Q, none, 0, 0, none, 0, 0, by rw [HH.out], fun h => by rw [HH.out] at h; cases h⟩
  simp [results, Try.results37, go_sem, x0, x1, x2]
theorem head_any (w : World) (a : Option Addr) (N c : Nat) (l : List UInt8) (hN : N = l.length) (hl : l.length ≤ 200000000000000) (hc : l.length ≤ c ∧ c ≤ 9223372036854775807) (hr : RdB w a l) :
    Calls Try.prog 37 #[.slice a N c] w (HdPost w l) := by
  cases hS : stmpD l (epOf l : Int) (seqOf l : Int) with
  | false => exact head_no w a N c l hN hl hc hr (.inr hS)
  | true =>
    by_cases hn : 1 ≤ nOf (gathB l) ∧ nOf (gathB l) ≤ 32
    · exact head_main w a N c l hN hc hr hS hn
    · exact head_n w a N c l hN hc hr hS hn
/-- What Head answers. -/
def hdE (l : List UInt8) : Nat := if isHead l then epOf l else 0
def hdQ (l : List UInt8) : Nat := if isHead l then seqOf l else 0
def hdN (l : List UInt8) : Nat := if isHead l then nOf (gathB l) else 0
theorem Head_any (w : World) (a : Option Addr) (N c : Nat) (l : List UInt8) (hN : N = l.length) (hl : l.length ≤ 200000000000000) (hc : l.length ≤ c ∧ c ≤ 9223372036854775807) (hr : RdB w a l) :
    Calls Try.prog 23 #[.slice a N c] w fun e w' => e = .returned (.tuple #[.int .i64 (hdE l : Int), .int .i64 (hdQ l : Int), .int .i64 (hdN l : Int), .bool (isHead l)]) ∧ Below w.heap.size w w' := by
  have HD := head_any w a N c l hN hl hc hr
  unfold HdPost at HD
  clear hN hl hc hr
  unfold hdE hdQ hdN
  cases hh : isHead l with
  | false =>
    rw [hh] at HD
    clear hh
    simp only [Bool.false_eq_true, if_false]
    go_enter Try.func23, Try.ntmps23
    go_wp2_with fail
    refine HD.mono ?_
    rintro e w1 ⟨b1, ep, seq, ia, im, ic, ha, hm, hc, rfl, -⟩
    clear HD
    go_wp2
    refine bodyPost_ret (v := .tuple #[.int .i64 0, .int .i64 0, .int .i64 0, .bool false]) ?_ rfl ⟨rfl, b1.alloc b1.size _⟩
    simp [results, Try.results23, go_sem]
  | true =>
    rw [hh] at HD
    clear hh
    simp only [if_true]
    go_enter Try.func23, Try.ntmps23
    go_wp2_with fail
    refine HD.mono ?_
    rintro e w1 ⟨b1, ep, seq, ia, im, ic, ha, hm, hc, rfl, hyes⟩
    clear HD
    obtain ⟨rfl, rfl, rfl, rfl, -⟩ := hyes trivial
    clear hyes
    have hrow := heap_alloc_new w1 (.cells #[.int .i64 (epOf l : Int), .int .i64 (seqOf l : Int), .slice ia (nOf (gathB l)) ic] 28)
    obtain ⟨x0, x1, x2⟩ := cells3 hrow
    have sX : (w1.alloc (.cells #[.int .i64 (epOf l : Int), .int .i64 (seqOf l : Int), .slice ia (nOf (gathB l)) ic] 28)).drew.cell? ⟨w1.heap.size, 0, none⟩ = some (.int .i64 (epOf l : Int)) ∧ (w1.alloc (.cells #[.int .i64 (epOf l : Int), .int .i64 (seqOf l : Int), .slice ia (nOf (gathB l)) ic] 28)).drew.cell? ⟨w1.heap.size, 1, none⟩ = some (.int .i64 (seqOf l : Int)) ∧ (w1.alloc (.cells #[.int .i64 (epOf l : Int), .int .i64 (seqOf l : Int), .slice ia (nOf (gathB l)) ic] 28)).drew.cell? ⟨w1.heap.size, 2, none⟩ = some (.slice ia (nOf (gathB l)) ic) := ⟨x0, x1, x2⟩
    clear hrow x0 x1 x2
    go_wp2_with fail
    refine wp_region_held_drew (S := fun W1 => W1.cell? ⟨w1.heap.size, 0, none⟩ = some (.int .i64 (epOf l : Int)) ∧ W1.cell? ⟨w1.heap.size, 1, none⟩ = some (.int .i64 (seqOf l : Int)) ∧ W1.cell? ⟨w1.heap.size, 2, none⟩ = some (.slice ia (nOf (gathB l)) ic)) (by kernel_rfl) (by exact sX) (fun hHeld => ?_)
    refine wpAnyH_take (i := 0) (oi := ?o0z1) (v := ?v0z1) ?hi0z1 (by kernel_rfl) (by kernel_rfl) ?hr0z1 ?hQ0z1 ?hy0z1 hHeld ?r0z1
    case hi0z1 => (simp only [List.getElem?_toArray, List.getElem?_cons_zero, List.getElem?_cons_succ]; rfl)
    case hr0z1 => kernel_rfl
    case hQ0z1 => exact fun _ _ _ h => h
    case hy0z1 => (refine Or.inl ⟨by rfl, ?_⟩; intro w hSw; (try dsimp only at hSw); go_simp; try with_reducible rfl)
    try simp only [Act.put, List.setIfInBounds_toArray, List.set_cons_zero, List.set_cons_succ]
    refine wpAnyH_take (i := 1) (oi := ?o1z1) (v := ?v1z1) ?hi1z1 (by kernel_rfl) (by kernel_rfl) ?hr1z1 ?hQ1z1 ?hy1z1 hHeld ?r1z1
    case hi1z1 => (simp only [List.getElem?_toArray, List.getElem?_cons_zero, List.getElem?_cons_succ]; rfl)
    case hr1z1 => kernel_rfl
    case hQ1z1 => exact fun _ _ _ h => h
    case hy1z1 => (refine Or.inl ⟨by rfl, ?_⟩; intro w hSw; (try dsimp only at hSw); go_simp; try with_reducible rfl)
    try simp only [Act.put, List.setIfInBounds_toArray, List.set_cons_zero, List.set_cons_succ]
    refine wpAnyH_take (i := 2) (oi := ?o2z1) (v := ?v2z1) ?hi2z1 (by kernel_rfl) (by kernel_rfl) ?hr2z1 ?hQ2z1 ?hy2z1 hHeld ?r2z1
    case hi2z1 => (simp only [List.getElem?_toArray, List.getElem?_cons_zero, List.getElem?_cons_succ]; rfl)
    case hr2z1 => kernel_rfl
    case hQ2z1 => exact fun _ _ _ h => h
    case hy2z1 => (refine Or.inl ⟨by rfl, ?_⟩; intro w hSw; (try dsimp only at hSw); go_simp; try with_reducible rfl)
    try simp only [Act.put, List.setIfInBounds_toArray, List.set_cons_zero, List.set_cons_succ]
    refine wpAnyH_take (i := 3) (oi := ?o3z1) (v := ?v3z1) ?hi3z1 (by kernel_rfl) (by kernel_rfl) ?hr3z1 ?hQ3z1 ?hy3z1 hHeld ?r3z1
    case hi3z1 => (simp only [List.getElem?_toArray, List.getElem?_cons_zero, List.getElem?_cons_succ]; rfl)
    case hr3z1 => kernel_rfl
    case hQ3z1 => exact fun _ _ _ h => h
    case hy3z1 => (refine Or.inl ⟨by rfl, ?_⟩; intro w hSw; (try dsimp only at hSw); go_simp; try with_reducible rfl)
    try simp only [Act.put, List.setIfInBounds_toArray, List.set_cons_zero, List.set_cons_succ]
    refine wpAnyH_take (i := 4) (oi := ?o4z1) (v := ?v4z1) ?hi4z1 (by kernel_rfl) (by kernel_rfl) ?hr4z1 ?hQ4z1 ?hy4z1 hHeld ?r4z1
    case hi4z1 => (simp only [List.getElem?_toArray, List.getElem?_cons_zero, List.getElem?_cons_succ]; rfl)
    case hr4z1 => kernel_rfl
    case hQ4z1 => exact fun _ _ _ h => h
    case hy4z1 => (refine Or.inl ⟨by rfl, ?_⟩; intro w hSw; (try dsimp only at hSw); go_simp; try with_reducible rfl)
    try simp only [Act.put, List.setIfInBounds_toArray, List.set_cons_zero, List.set_cons_succ]
    refine wpAnyH_take (i := 5) (oi := ?o5z1) (v := ?v5z1) ?hi5z1 (by kernel_rfl) (by kernel_rfl) ?hr5z1 ?hQ5z1 ?hy5z1 hHeld ?r5z1
    case hi5z1 => (simp only [List.getElem?_toArray, List.getElem?_cons_zero, List.getElem?_cons_succ]; rfl)
    case hr5z1 => kernel_rfl
    case hQ5z1 => exact fun _ _ _ h => h
    case hy5z1 => (refine Or.inl ⟨by rfl, ?_⟩; intro w hSw; (try dsimp only at hSw); go_simp; try with_reducible rfl)
    try simp only [Act.put, List.setIfInBounds_toArray, List.set_cons_zero, List.set_cons_succ]
    refine wpAnyH_take (i := 6) (oi := ?o6z1) (v := ?v6z1) ?hi6z1 (by kernel_rfl) (by kernel_rfl) ?hr6z1 ?hQ6z1 ?hy6z1 hHeld ?r6z1
    case hi6z1 => (simp only [List.getElem?_toArray, List.getElem?_cons_zero, List.getElem?_cons_succ]; rfl)
    case hr6z1 => kernel_rfl
    case hQ6z1 => exact fun _ _ _ h => h
    case hy6z1 => (refine Or.inl ⟨by rfl, ?_⟩; intro w hSw; (try dsimp only at hSw); go_simp; try with_reducible rfl)
    try simp only [Act.put, List.setIfInBounds_toArray, List.set_cons_zero, List.set_cons_succ]
    refine wpAnyH_take (i := 7) (oi := ?o7z1) (v := ?v7z1) ?hi7z1 (by kernel_rfl) (by kernel_rfl) ?hr7z1 ?hQ7z1 ?hy7z1 hHeld ?r7z1
    case hi7z1 => (simp only [List.getElem?_toArray, List.getElem?_cons_zero, List.getElem?_cons_succ]; rfl)
    case hr7z1 => kernel_rfl
    case hQ7z1 => exact fun _ _ _ h => h
    case hy7z1 => (refine Or.inl ⟨by rfl, ?_⟩; intro w hSw; (try dsimp only at hSw); go_simp; try with_reducible rfl)
    try simp only [Act.put, List.setIfInBounds_toArray, List.set_cons_zero, List.set_cons_succ]
    refine wpAnyH_take (i := 8) (oi := ?o8z1) (v := ?v8z1) ?hi8z1 (by kernel_rfl) (by kernel_rfl) ?hr8z1 ?hQ8z1 ?hy8z1 hHeld ?r8z1
    case hi8z1 => (simp only [List.getElem?_toArray, List.getElem?_cons_zero, List.getElem?_cons_succ]; rfl)
    case hr8z1 => kernel_rfl
    case hQ8z1 => exact fun _ _ _ h => h
    case hy8z1 => (refine Or.inl ⟨by rfl, ?_⟩; intro w hSw; (try dsimp only at hSw); go_simp; try with_reducible rfl)
    try simp only [Act.put, List.setIfInBounds_toArray, List.set_cons_zero, List.set_cons_succ]
    refine wpAnyH_take (i := 9) (oi := ?o9z1) (v := ?v9z1) ?hi9z1 (by kernel_rfl) (by kernel_rfl) ?hr9z1 ?hQ9z1 ?hy9z1 hHeld ?r9z1
    case hi9z1 => (simp only [List.getElem?_toArray, List.getElem?_cons_zero, List.getElem?_cons_succ]; rfl)
    case hr9z1 => kernel_rfl
    case hQ9z1 => exact fun _ _ _ h => h
    case hy9z1 => (refine Or.inl ⟨by rfl, ?_⟩; intro w hSw; (try dsimp only at hSw); go_simp; try with_reducible rfl)
    try simp only [Act.put, List.setIfInBounds_toArray, List.set_cons_zero, List.set_cons_succ]
    refine wpAnyH_take (i := 10) (oi := ?o10z1) (v := ?v10z1) ?hi10z1 (by kernel_rfl) (by kernel_rfl) ?hr10z1 ?hQ10z1 ?hy10z1 hHeld ?r10z1
    case hi10z1 => (simp only [List.getElem?_toArray, List.getElem?_cons_zero, List.getElem?_cons_succ]; rfl)
    case hr10z1 => kernel_rfl
    case hQ10z1 => exact fun _ _ _ h => h
    case hy10z1 => (refine Or.inl ⟨by rfl, ?_⟩; intro w hSw; (try dsimp only at hSw); go_simp; try with_reducible rfl)
    try simp only [Act.put, List.setIfInBounds_toArray, List.set_cons_zero, List.set_cons_succ]
    refine wpAnyH_done (by kernel_rfl) ?_ _
    go_wp2
    refine bodyPost_ret (v := .tuple #[.int .i64 (epOf l : Int), .int .i64 (seqOf l : Int), .int .i64 (nOf (gathB l) : Int), .bool true]) ?_ rfl ⟨rfl, below_drw (b1.alloc b1.size _)⟩
    simp [results, Try.results23, go_sem]
end Go.Proofs.Ytknhfaplddgnlaa
