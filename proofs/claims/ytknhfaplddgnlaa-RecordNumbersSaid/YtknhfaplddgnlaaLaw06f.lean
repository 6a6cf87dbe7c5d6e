/- RecordNumbers, the walk (printed by gen06u.py). -/
import Derived.Test.YtknhfaplddgnlaaNumD
import Derived.Test.YtknhfaplddgnlaaWhole2
namespace Go.Proofs.Ytknhfaplddgnlaa
open Go.RowKit
set_option maxHeartbeats 4000000
set_option maxRecDepth 100000
set_option linter.unusedVariables false
set_option linter.unusedSimpArgs false

theorem GetNo (w : World) (a : Option Addr) (N c : Nat) (ls : List (List UInt8)) (hN : N = ls.length) (hNc : N ≤ c ∧ c ≤ 9223372036854775807) (hNl : N ≤ 1000000) (hl : ∀ l ∈ ls, l.length ≤ 200000000000000) (hr : RdLs w a ls) (hno : getOK ls = false) :
    Calls Try.prog 11 #[.slice a N c] w fun e w' => Below w.heap.size w w' ∧ ∃ y1 y2 A n cc, e = .returned (.tuple #[.agg #[.int .i64 y1, .int .i64 y2, .slice A n cc], .int .i64 80]) := by
  refine (GetU w a N c ls hN hNc hNl hl hr).mono ?_
  rintro e w' ⟨b, A, n, c', rfl, _, _⟩
  exact ⟨b, _, _, A, n, c', by rw [show getE ls = 80 by simp [getE, hno]]⟩
theorem PutNo (w : World) (ep seq : Int) (a : Option Addr) (N c : Nat) (ims : List Img) (hN : N = ims.length) (hr : RdG w a ims) (hno : rightG ep seq ims = false) :
    Calls Try.prog 7 #[.agg #[.int .i64 ep, .int .i64 seq, .slice a N c]] w fun e w' => e = .returned (.tuple #[.slice none 0 0, .int .i64 80]) ∧ Below w.heap.size w w' :=
  (Put_any w ep seq a N c ims hN hr).mono fun _ _ h => ⟨h.2.1 hno, h.1⟩
theorem rdls_two (W : World) {a b : Option Addr} {c d n m : Nat} {l r : List UInt8} (h1 : RdB W a l) (h2 : RdB W b r) (hn : n = l.length) (hm : m = r.length) (hc : n ≤ c ∧ c ≤ 9223372036854775807) (hd : m ≤ d ∧ d ≤ 9223372036854775807) (t : TypeId) :
    RdLs (W.alloc (.cells #[.slice a n c, .slice b m d] t)) (some ⟨W.heap.size, 0, none⟩) [l, r] := by
  subst hn hm
  have ba : Below W.heap.size W (W.alloc (.cells #[.slice a l.length c, .slice b r.length d] t)) := (Below.refl _ _).alloc (Nat.le_refl _) _
  have hI := heap_alloc_new W (.cells #[.slice a l.length c, .slice b r.length d] t)
  intro i x hx
  rcases i with _ | _ | i
  · cases hx
    exact ⟨W.heap.size, 0, a, c, rfl, by rw [cell_of_row _ _ _ _ _ _ hI]; rfl, h1.below ba, hc⟩
  · cases hx
    exact ⟨W.heap.size, 0, b, d, rfl, by rw [cell_of_row _ _ _ _ _ _ hI]; rfl, h2.below ba, hd⟩
  · simp at hx
theorem RdLs.head {w : World} {a : Option Addr} {x : List UInt8} {t : List (List UInt8)} (h : RdLs w a (x :: t)) : RdLs w a [x] := by
  intro i l hl
  rcases i with _ | i
  · exact h 0 l hl
  · simp at hl
theorem rdg_one (W : World) (x : Int) {a : Option Addr} {c n : Nat} {l : List UInt8} (h1 : RdB W a l) (hn : n = l.length) (hc : n ≤ c ∧ c ≤ 9223372036854775807) (t : TypeId) :
    RdG (W.alloc (.cells #[.int .i64 x, .slice a n c] t)) (some ⟨W.heap.size, 0, none⟩) [(x, l)] := by
  subst hn
  have ba : Below W.heap.size W (W.alloc (.cells #[.int .i64 x, .slice a l.length c] t)) := (Below.refl _ _).alloc (Nat.le_refl _) _
  have hI := heap_alloc_new W (.cells #[.int .i64 x, .slice a l.length c] t)
  intro i y hy
  rcases i with _ | i
  · cases hy
    exact ⟨W.heap.size, 0, a, c, rfl, by rw [cell_of_row _ _ _ _ _ _ hI]; rfl, by rw [cell_of_row _ _ _ _ _ _ hI]; rfl, h1.below ba, hc⟩
  · simp at hy
theorem rdg_two (W : World) (x y : Int) {a b : Option Addr} {c d n m : Nat} {l r : List UInt8} (h1 : RdB W a l) (h2 : RdB W b r) (hn : n = l.length) (hm : m = r.length) (hc : n ≤ c ∧ c ≤ 9223372036854775807) (hd : m ≤ d ∧ d ≤ 9223372036854775807) (t : TypeId) :
    RdG (W.alloc (.cells #[.int .i64 x, .slice a n c, .int .i64 y, .slice b m d] t)) (some ⟨W.heap.size, 0, none⟩) [(x, l), (y, r)] := by
  subst hn hm
  have ba : Below W.heap.size W (W.alloc (.cells #[.int .i64 x, .slice a l.length c, .int .i64 y, .slice b r.length d] t)) := (Below.refl _ _).alloc (Nat.le_refl _) _
  have hI := heap_alloc_new W (.cells #[.int .i64 x, .slice a l.length c, .int .i64 y, .slice b r.length d] t)
  intro i z hz
  rcases i with _ | _ | i
  · cases hz
    exact ⟨W.heap.size, 0, a, c, rfl, by rw [cell_of_row _ _ _ _ _ _ hI]; rfl, by rw [cell_of_row _ _ _ _ _ _ hI]; rfl, h1.below ba, hc⟩
  · cases hz
    exact ⟨W.heap.size, 0, b, d, rfl, by rw [cell_of_row _ _ _ _ _ _ hI]; rfl, by rw [cell_of_row _ _ _ _ _ _ hI]; rfl, h2.below ba, hd⟩
  · simp at hz
theorem one_len : ∀ l ∈ putB 1 1 oneI, l.length ≤ 200000000000000 := by
  intro l hl
  rw [putB_one] at hl
  simp only [List.mem_cons, List.not_mem_nil, or_false] at hl
  rcases hl with rfl | rfl
  · rw [oneH_length]; decide
  · rw [oneM_length]; decide
theorem RecordNumbers_any (w : World) : Calls Try.prog 3 #[] w fun e w' => e = .returned (.bool true) ∧ Below w.heap.size w w' := by
  go_enter Try.func3, Try.ntmps3
  go_wp2_with fail
  refine (one_any w).mono ?_
  rintro e w1 ⟨g, rfl, hg, b1⟩
  have PT := Put_any w1 1 1 (some ⟨g, 0, none⟩) 1 1 oneI rfl hg
  have hor : rightG 1 1 oneI = true := one_right
  rw [hor] at PT
  have t1 : (1 : Int).toNat = 1 := rfl
  rw [t1] at PT
  clear hg hor t1
  go_wp2_with fail
  refine PT.mono ?_
  rintro e w2 ⟨b2, -, hyes⟩
  obtain ⟨L, cL, gs, rfl, hols⟩ := hyes trivial
  clear PT hyes
  have b12 := b1.trans (b2.mono b1.size)
  have hgl := hols.blk.len
  obtain ⟨g0, c0, g1, c1, rfl⟩ : ∃ g0 c0 g1 c1, gs = [(g0, c0), (g1, c1)] := by
    match gs, hgl with
    | [(g0, c0), (g1, c1)], _ => exact ⟨g0, c0, g1, c1, rfl⟩
    | [], h => cases h
    | [_], h => cases h
    | _ :: _ :: _ :: _, h => cases h
  have l0' : w2.cell? ⟨L, 0, none⟩ = some (.slice (some ⟨g0, 0, none⟩) 4096 c0) := World.ownsRow.cellAt hols.row 0 (by decide)
  have l1' : w2.cell? ⟨L, 1, none⟩ = some (.slice (some ⟨g1, 0, none⟩) 4096 c1) := World.ownsRow.cellAt hols.row 1 (by decide)
  obtain ⟨ho0, _⟩ := hols.blk.own 0 (g0, c0) oneH rfl rfl
  obtain ⟨ho1, _⟩ := hols.blk.own 1 (g1, c1) oneM rfl rfl
  have hc0 := ho0.cap
  have hc1 := ho1.cap
  rw [oneH_length] at hc0
  rw [oneM_length] at hc1
  obtain ⟨hc00, hc01⟩ := hc0
  obtain ⟨hc10, hc11⟩ := hc1
  have hcl := own_cap hols.row
  obtain ⟨hcl1, hcl2⟩ := hcl
  have hcl1 : 2 ≤ cL := hcl1
  have hcl2 : cL ≤ 9223372036854775807 := by simp only [maxLen] at hcl2; omega
  have LS := hid (And.intro l0' l1')
  have HO := hid hols.rd; have HH := hid ho0.rd; have HM := hid ho1.rd
  have HW := hid b12
  have LE := hid one_len
  clear hols l0' l1' ho0 ho1 b1 b2 b12 hgl
  go_wp2_with fail
  go_loopw [3] (fun i wr => ∃ k : Nat, k ≤ 8 ∧ i = .int .i64 ((k : Nat) : Int) ∧ Below w2.heap.size w2 wr) (fun i _ => 8 - (intOf i).toNat)
  case atStart => exact ⟨0, by omega, rfl, Below.refl _ _⟩
  case round => as_aux_lemma =>
    obtain ⟨k, hk, rfl, hb⟩ := hrel
    by_cases hlt : k < 8
    · have hd : Below w2.heap.size w2 wr.drew := below_drw hb
      have sX := And.intro (cell_below hd LS.out.1) (cell_below hd LS.out.2)
      have r1 := (HM.out.below hd).part (k * 512) 9
      have r0 := (HH.out.below hd).part (k * 512) 8
      have r2 := (HM.out.below hd).part 0 8
      rw [oneM_part k hlt, Nat.zero_add] at r1
      rw [oneH_part k hlt, Nat.zero_add] at r0
      rw [List.drop_zero, oneM_take, Nat.zero_add] at r2
      have R0 := hid r0; have R1 := hid r1; have R2 := hid r2; have HB := hid hb
      have t1 : ((k : Int) * 512).toNat = k * 512 := by omega
      have t2 : ((k : Int) * 512 + 9).toNat = k * 512 + 9 := by omega
      have t3 : ((k : Int) * 512 + 8).toNat = k * 512 + 8 := by omega
      have t4 : k * 512 + 9 - k * 512 = 9 := by omega
      have t5 : k * 512 + 8 - k * 512 = 8 := by omega
      have i0 : (0 : Int) ≤ (k : Int) * 512 := by omega
      have i1 : (k : Int) * 512 + 9 ≤ (c1 : Int) := by omega
      have i2 : (k : Int) * 512 + 8 ≤ (c0 : Int) := by omega
      have i3 : (k : Int) * 512 ≤ (k : Int) * 512 + 9 := by omega
      have i4 : (k : Int) * 512 ≤ (k : Int) * 512 + 8 := by omega
      have i5 : (8 : Int) ≤ (c1 : Int) := by omega
      have i6 : (0 : Int) ≤ (k : Int) * 512 + 9 := by omega
      have i7 : (0 : Int) ≤ (k : Int) * 512 + 8 := by omega
      have hw1 : IntKind.i64.wrap ((k : Int) * 512) = (k : Int) * 512 := IntWalk.i64_in _ (by omega)
      have hw2 : IntKind.i64.wrap ((k : Int) * 512 + 9) = (k : Int) * 512 + 9 := IntWalk.i64_in _ (by omega)
      have hw3 : IntKind.i64.wrap ((k : Int) * 512 + 8) = (k : Int) * 512 + 8 := IntWalk.i64_in _ (by omega)
      have n1 : ¬ c1 = k * 512 := by omega
      have n0 : ¬ c0 = k * 512 := by omega
      have n2 : ¬ c1 = 0 := by omega
      clear r0 r1 r2 hb hd
      go_wp2_with fail
      refine wp_region_held_drew (S := fun W1 => W1.cell? ⟨L, 0, none⟩ = some (.slice (some ⟨g0, 0, none⟩) 4096 c0) ∧ W1.cell? ⟨L, 1, none⟩ = some (.slice (some ⟨g1, 0, none⟩) 4096 c1)) (by kernel_rfl) (by exact sX) (fun hHeld => ?_)
      refine wpAnyH_take (i := 0) (oi := ?o0z1) (v := ?v0z1) ?hi0z1 (by kernel_rfl) (by kernel_rfl) ?hr0z1 ?hQ0z1 ?hy0z1 hHeld ?r0z1
      case hi0z1 => (simp only [List.getElem?_toArray, List.getElem?_cons_zero, List.getElem?_cons_succ]; rfl)
      case hr0z1 => kernel_rfl
      case hQ0z1 => exact fun _ _ _ h => h
      case hy0z1 => (refine Or.inl ⟨by rfl, ?_⟩; intro w hSw; (try dsimp only at hSw); go_simp; try with_reducible rfl)
      try simp only [Act.put, List.setIfInBounds_toArray, List.set_cons_zero, List.set_cons_succ]
      refine wpAnyH_take (i := 1) (oi := ?o1z1) (v := ?v1z1) ?hi1z1 (by kernel_rfl) (by kernel_rfl) ?hr1z1 ?hQ1z1 ?hy1z1 hHeld ?r1z1
      case hi1z1 => (simp only [List.getElem?_toArray, List.getElem?_cons_zero, List.getElem?_cons_succ]; rfl)
      case hr1z1 => kernel_rfl
      case hQ1z1 => exact fun _ _ _ h => h
      case hy1z1 => (refine Or.inl ⟨by rfl, ?_⟩; intro w hSw; (try dsimp only at hSw); go_simp; try with_reducible rfl)
      try simp only [Act.put, List.setIfInBounds_toArray, List.set_cons_zero, List.set_cons_succ]
      refine wpAnyH_take (i := 2) (oi := ?o2z1) (v := ?v2z1) ?hi2z1 (by kernel_rfl) (by kernel_rfl) ?hr2z1 ?hQ2z1 ?hy2z1 hHeld ?r2z1
      case hi2z1 => (simp only [List.getElem?_toArray, List.getElem?_cons_zero, List.getElem?_cons_succ]; rfl)
      case hr2z1 => kernel_rfl
      case hQ2z1 => exact fun _ _ _ h => h
      case hy2z1 => (refine Or.inl ⟨by rfl, ?_⟩; intro w hSw; (try dsimp only at hSw); go_simp; try with_reducible rfl)
      try simp only [Act.put, List.setIfInBounds_toArray, List.set_cons_zero, List.set_cons_succ]
      refine wpAnyH_take (i := 3) (oi := ?o3z1) (v := ?v3z1) ?hi3z1 (by kernel_rfl) (by kernel_rfl) ?hr3z1 ?hQ3z1 ?hy3z1 hHeld ?r3z1
      case hi3z1 => (simp only [List.getElem?_toArray, List.getElem?_cons_zero, List.getElem?_cons_succ]; rfl)
      case hr3z1 => kernel_rfl
      case hQ3z1 => exact fun _ _ _ h => h
      case hy3z1 => (refine Or.inl ⟨by rfl, ?_⟩; intro w hSw; (try dsimp only at hSw); go_simp; try with_reducible rfl)
      try simp only [Act.put, List.setIfInBounds_toArray, List.set_cons_zero, List.set_cons_succ]
      refine wpAnyH_take (i := 4) (oi := ?o4z1) (v := ?v4z1) ?hi4z1 (by kernel_rfl) (by kernel_rfl) ?hr4z1 ?hQ4z1 ?hy4z1 hHeld ?r4z1
      case hi4z1 => (simp only [List.getElem?_toArray, List.getElem?_cons_zero, List.getElem?_cons_succ]; rfl)
      case hr4z1 => kernel_rfl
      case hQ4z1 => exact fun _ _ _ h => h
      case hy4z1 => (refine Or.inl ⟨by rfl, ?_⟩; intro w hSw; (try dsimp only at hSw); go_simp; try with_reducible rfl)
      try simp only [Act.put, List.setIfInBounds_toArray, List.set_cons_zero, List.set_cons_succ]
      refine wpAnyH_take (i := 5) (oi := ?o5z1) (v := ?v5z1) ?hi5z1 (by kernel_rfl) (by kernel_rfl) ?hr5z1 ?hQ5z1 ?hy5z1 hHeld ?r5z1
      case hi5z1 => (simp only [List.getElem?_toArray, List.getElem?_cons_zero, List.getElem?_cons_succ]; rfl)
      case hr5z1 => kernel_rfl
      case hQ5z1 => exact fun _ _ _ h => h
      case hy5z1 => (refine Or.inl ⟨by rfl, ?_⟩; intro w hSw; (try dsimp only at hSw); go_simp; try with_reducible rfl)
      try simp only [Act.put, List.setIfInBounds_toArray, List.set_cons_zero, List.set_cons_succ]
      refine wpAnyH_take (i := 6) (oi := ?o6z1) (v := ?v6z1) ?hi6z1 (by kernel_rfl) (by kernel_rfl) ?hr6z1 ?hQ6z1 ?hy6z1 hHeld ?r6z1
      case hi6z1 => (simp only [List.getElem?_toArray, List.getElem?_cons_zero, List.getElem?_cons_succ]; rfl)
      case hr6z1 => kernel_rfl
      case hQ6z1 => exact fun _ _ _ h => h
      case hy6z1 => (refine Or.inl ⟨by rfl, ?_⟩; intro w hSw; (try dsimp only at hSw); go_simp; try with_reducible rfl)
      try simp only [Act.put, List.setIfInBounds_toArray, List.set_cons_zero, List.set_cons_succ]
      refine wpAnyH_take (i := 7) (oi := ?o7z1) (v := ?v7z1) ?hi7z1 (by kernel_rfl) (by kernel_rfl) ?hr7z1 ?hQ7z1 ?hy7z1 hHeld ?r7z1
      case hi7z1 => (simp only [List.getElem?_toArray, List.getElem?_cons_zero, List.getElem?_cons_succ]; rfl)
      case hr7z1 => kernel_rfl
      case hQ7z1 => exact fun _ _ _ h => h
      case hy7z1 => (refine Or.inl ⟨by rfl, ?_⟩; intro w hSw; (try dsimp only at hSw); go_simp; try with_reducible rfl)
      try simp only [Act.put, List.setIfInBounds_toArray, List.set_cons_zero, List.set_cons_succ]
      refine wpAnyH_take (i := 8) (oi := ?o8z1) (v := ?v8z1) ?hi8z1 (by kernel_rfl) (by kernel_rfl) ?hr8z1 ?hQ8z1 ?hy8z1 hHeld ?r8z1
      case hi8z1 => (simp only [List.getElem?_toArray, List.getElem?_cons_zero, List.getElem?_cons_succ]; rfl)
      case hr8z1 => kernel_rfl
      case hQ8z1 => exact fun _ _ _ h => h
      case hy8z1 => (refine Or.inl ⟨by rfl, ?_⟩; intro w hSw; (try dsimp only at hSw); go_simp; try with_reducible rfl)
      try simp only [Act.put, List.setIfInBounds_toArray, List.set_cons_zero, List.set_cons_succ]
      refine wpAnyH_ready (rs := [9]) (by kernel_rfl) (by simp) (AllReadyH.cons (o := ?o9z1) ?hi9z1 (fun K hK => ?r9z1) AllReadyH.nil)
      case hi9z1 => (simp only [List.getElem?_toArray, List.getElem?_cons_zero, List.getElem?_cons_succ]; rfl)
      refine bs9_draw rfl 31 rfl (.slice (some ⟨wr.heap.size, 0, none⟩) 9 9) (wr.drew.alloc (.cells #[.int .u8 0, .int .u8 0, .int .u8 1, .int .u8 0, .int .u8 0, .int .u8 0, .int .u8 0, .int .u8 1, .int .u8 97] 5)) (run_bs9 wr.drew) ?_
      have ba9 : Below wr.drew.heap.size wr.drew (wr.drew.alloc (.cells #[.int .u8 0, .int .u8 0, .int .u8 1, .int .u8 0, .int .u8 0, .int .u8 0, .int .u8 0, .int .u8 1, .int .u8 97] 5)) := (Below.refl _ _).alloc (Nat.le_refl _) _
      have s9 := And.intro (cell_below ba9 sX.1) (cell_below ba9 sX.2)
      have SB1 := SameBytes_any (wr.drew.alloc (.cells #[.int .u8 0, .int .u8 0, .int .u8 1, .int .u8 0, .int .u8 0, .int .u8 0, .int .u8 0, .int .u8 1, .int .u8 97] 5)) (some ⟨g1, k * 512, none⟩) (some ⟨wr.heap.size, 0, none⟩) (c1 - k * 512) 9 9 9 [0, 0, 1, 0, 0, 0, 0, 1, 97] [0, 0, 1, 0, 0, 0, 0, 1, 97] rfl rfl (R1.out.below ba9) (RdB.lit wr.drew _ _ _ rfl (by simp))
      rw [show (([0, 0, 1, 0, 0, 0, 0, 1, 97] : List UInt8) == [0, 0, 1, 0, 0, 0, 0, 1, 97]) = true by decide] at SB1
      have SB2 := SameBytes_any (wr.drew.alloc (.cells #[.int .u8 0, .int .u8 0, .int .u8 1, .int .u8 0, .int .u8 0, .int .u8 0, .int .u8 0, .int .u8 1, .int .u8 97] 5)) (some ⟨g0, k * 512, none⟩) (some ⟨g1, 0, none⟩) (c0 - k * 512) c1 8 8 [0, 0, 1, 0, 0, 0, 0, 1] [0, 0, 1, 0, 0, 0, 0, 1] rfl rfl (R0.out.below ba9) (R2.out.below ba9)
      rw [show (([0, 0, 1, 0, 0, 0, 0, 1] : List UInt8) == [0, 0, 1, 0, 0, 0, 0, 1]) = true by decide] at SB2
      refine hK.out _ _ (by exact s9) (fun hHeld => ?_)
      clear hK K
      try simp only [Act.put, List.setIfInBounds_toArray, List.set_cons_zero, List.set_cons_succ]
      refine wpAnyH_ready (rs := [10]) (by kernel_rfl) (by simp) (AllReadyH.cons (o := ?o10z1) ?hi10z1 (fun K hK => ?r10z1) AllReadyH.nil)
      case hi10z1 => (simp only [List.getElem?_toArray, List.getElem?_cons_zero, List.getElem?_cons_succ]; rfl)
      go_simp
      refine SB1.mono ?_
      rintro e w' ⟨rfl, rfl⟩
      clear SB1
      refine hK.out _ _ (by exact s9) (fun hHeld => ?_)
      clear hK K
      try simp only [Act.put, List.setIfInBounds_toArray, List.set_cons_zero, List.set_cons_succ]
      refine wpAnyH_take (i := 11) (oi := ?o11z1) (v := ?v11z1) ?hi11z1 (by kernel_rfl) (by kernel_rfl) ?hr11z1 ?hQ11z1 ?hy11z1 hHeld ?r11z1
      case hi11z1 => (simp only [List.getElem?_toArray, List.getElem?_cons_zero, List.getElem?_cons_succ]; rfl)
      case hr11z1 => kernel_rfl
      case hQ11z1 => exact fun _ _ _ h => h
      case hy11z1 => (refine Or.inl ⟨by rfl, ?_⟩; intro w hSw; (try dsimp only at hSw); go_simp; try with_reducible rfl)
      try simp only [Act.put, List.setIfInBounds_toArray, List.set_cons_zero, List.set_cons_succ]
      refine wpAnyH_take (i := 12) (oi := ?o12z1) (v := ?v12z1) ?hi12z1 (by kernel_rfl) (by kernel_rfl) ?hr12z1 ?hQ12z1 ?hy12z1 hHeld ?r12z1
      case hi12z1 => (simp only [List.getElem?_toArray, List.getElem?_cons_zero, List.getElem?_cons_succ]; rfl)
      case hr12z1 => kernel_rfl
      case hQ12z1 => exact fun _ _ _ h => h
      case hy12z1 => (refine Or.inl ⟨by rfl, ?_⟩; intro w hSw; (try dsimp only at hSw); go_simp; try with_reducible rfl)
      try simp only [Act.put, List.setIfInBounds_toArray, List.set_cons_zero, List.set_cons_succ]
      refine wpAnyH_take (i := 13) (oi := ?o13z1) (v := ?v13z1) ?hi13z1 (by kernel_rfl) (by kernel_rfl) ?hr13z1 ?hQ13z1 ?hy13z1 hHeld ?r13z1
      case hi13z1 => (simp only [List.getElem?_toArray, List.getElem?_cons_zero, List.getElem?_cons_succ]; rfl)
      case hr13z1 => kernel_rfl
      case hQ13z1 => exact fun _ _ _ h => h
      case hy13z1 => (refine Or.inl ⟨by rfl, ?_⟩; intro w hSw; (try dsimp only at hSw); go_simp; try with_reducible rfl)
      try simp only [Act.put, List.setIfInBounds_toArray, List.set_cons_zero, List.set_cons_succ]
      refine wpAnyH_take (i := 14) (oi := ?o14z1) (v := ?v14z1) ?hi14z1 (by kernel_rfl) (by kernel_rfl) ?hr14z1 ?hQ14z1 ?hy14z1 hHeld ?r14z1
      case hi14z1 => (simp only [List.getElem?_toArray, List.getElem?_cons_zero, List.getElem?_cons_succ]; rfl)
      case hr14z1 => kernel_rfl
      case hQ14z1 => exact fun _ _ _ h => h
      case hy14z1 => (refine Or.inl ⟨by rfl, ?_⟩; intro w hSw; (try dsimp only at hSw); go_simp; try with_reducible rfl)
      try simp only [Act.put, List.setIfInBounds_toArray, List.set_cons_zero, List.set_cons_succ]
      refine wpAnyH_take (i := 15) (oi := ?o15z1) (v := ?v15z1) ?hi15z1 (by kernel_rfl) (by kernel_rfl) ?hr15z1 ?hQ15z1 ?hy15z1 hHeld ?r15z1
      case hi15z1 => (simp only [List.getElem?_toArray, List.getElem?_cons_zero, List.getElem?_cons_succ]; rfl)
      case hr15z1 => kernel_rfl
      case hQ15z1 => exact fun _ _ _ h => h
      case hy15z1 => (refine Or.inl ⟨by rfl, ?_⟩; intro w hSw; (try dsimp only at hSw); go_simp; try with_reducible rfl)
      try simp only [Act.put, List.setIfInBounds_toArray, List.set_cons_zero, List.set_cons_succ]
      refine wpAnyH_take (i := 16) (oi := ?o16z1) (v := ?v16z1) ?hi16z1 (by kernel_rfl) (by kernel_rfl) ?hr16z1 ?hQ16z1 ?hy16z1 hHeld ?r16z1
      case hi16z1 => (simp only [List.getElem?_toArray, List.getElem?_cons_zero, List.getElem?_cons_succ]; rfl)
      case hr16z1 => kernel_rfl
      case hQ16z1 => exact fun _ _ _ h => h
      case hy16z1 => (refine Or.inl ⟨by rfl, ?_⟩; intro w hSw; (try dsimp only at hSw); go_simp; try with_reducible rfl)
      try simp only [Act.put, List.setIfInBounds_toArray, List.set_cons_zero, List.set_cons_succ]
      refine wpAnyH_take (i := 17) (oi := ?o17z1) (v := ?v17z1) ?hi17z1 (by kernel_rfl) (by kernel_rfl) ?hr17z1 ?hQ17z1 ?hy17z1 hHeld ?r17z1
      case hi17z1 => (simp only [List.getElem?_toArray, List.getElem?_cons_zero, List.getElem?_cons_succ]; rfl)
      case hr17z1 => kernel_rfl
      case hQ17z1 => exact fun _ _ _ h => h
      case hy17z1 => (refine Or.inl ⟨by rfl, ?_⟩; intro w hSw; (try dsimp only at hSw); go_simp; try with_reducible rfl)
      try simp only [Act.put, List.setIfInBounds_toArray, List.set_cons_zero, List.set_cons_succ]
      refine wpAnyH_take (i := 18) (oi := ?o18z1) (v := ?v18z1) ?hi18z1 (by kernel_rfl) (by kernel_rfl) ?hr18z1 ?hQ18z1 ?hy18z1 hHeld ?r18z1
      case hi18z1 => (simp only [List.getElem?_toArray, List.getElem?_cons_zero, List.getElem?_cons_succ]; rfl)
      case hr18z1 => kernel_rfl
      case hQ18z1 => exact fun _ _ _ h => h
      case hy18z1 => (refine Or.inl ⟨by rfl, ?_⟩; intro w hSw; (try dsimp only at hSw); go_simp; try with_reducible rfl)
      try simp only [Act.put, List.setIfInBounds_toArray, List.set_cons_zero, List.set_cons_succ]
      refine wpAnyH_take (i := 19) (oi := ?o19z1) (v := ?v19z1) ?hi19z1 (by kernel_rfl) (by kernel_rfl) ?hr19z1 ?hQ19z1 ?hy19z1 hHeld ?r19z1
      case hi19z1 => (simp only [List.getElem?_toArray, List.getElem?_cons_zero, List.getElem?_cons_succ]; rfl)
      case hr19z1 => kernel_rfl
      case hQ19z1 => exact fun _ _ _ h => h
      case hy19z1 => (refine Or.inl ⟨by rfl, ?_⟩; intro w hSw; (try dsimp only at hSw); go_simp; try with_reducible rfl)
      try simp only [Act.put, List.setIfInBounds_toArray, List.set_cons_zero, List.set_cons_succ]
      refine wpAnyH_take (i := 20) (oi := ?o20z1) (v := ?v20z1) ?hi20z1 (by kernel_rfl) (by kernel_rfl) ?hr20z1 ?hQ20z1 ?hy20z1 hHeld ?r20z1
      case hi20z1 => (simp only [List.getElem?_toArray, List.getElem?_cons_zero, List.getElem?_cons_succ]; rfl)
      case hr20z1 => kernel_rfl
      case hQ20z1 => exact fun _ _ _ h => h
      case hy20z1 => (refine Or.inl ⟨by rfl, ?_⟩; intro w hSw; (try dsimp only at hSw); go_simp; try with_reducible rfl)
      try simp only [Act.put, List.setIfInBounds_toArray, List.set_cons_zero, List.set_cons_succ]
      refine wpAnyH_take (i := 21) (oi := ?o21z1) (v := ?v21z1) ?hi21z1 (by kernel_rfl) (by kernel_rfl) ?hr21z1 ?hQ21z1 ?hy21z1 hHeld ?r21z1
      case hi21z1 => (simp only [List.getElem?_toArray, List.getElem?_cons_zero, List.getElem?_cons_succ]; rfl)
      case hr21z1 => kernel_rfl
      case hQ21z1 => exact fun _ _ _ h => h
      case hy21z1 => (refine Or.inl ⟨by rfl, ?_⟩; intro w hSw; (try dsimp only at hSw); go_simp; try with_reducible rfl)
      try simp only [Act.put, List.setIfInBounds_toArray, List.set_cons_zero, List.set_cons_succ]
      refine wpAnyH_take (i := 22) (oi := ?o22z1) (v := ?v22z1) ?hi22z1 (by kernel_rfl) (by kernel_rfl) ?hr22z1 ?hQ22z1 ?hy22z1 hHeld ?r22z1
      case hi22z1 => (simp only [List.getElem?_toArray, List.getElem?_cons_zero, List.getElem?_cons_succ]; rfl)
      case hr22z1 => kernel_rfl
      case hQ22z1 => exact fun _ _ _ h => h
      case hy22z1 => (refine Or.inl ⟨by rfl, ?_⟩; intro w hSw; (try dsimp only at hSw); go_simp; try with_reducible rfl)
      try simp only [Act.put, List.setIfInBounds_toArray, List.set_cons_zero, List.set_cons_succ]
      refine wpAnyH_take (i := 23) (oi := ?o23z1) (v := ?v23z1) ?hi23z1 (by kernel_rfl) (by kernel_rfl) ?hr23z1 ?hQ23z1 ?hy23z1 hHeld ?r23z1
      case hi23z1 => (simp only [List.getElem?_toArray, List.getElem?_cons_zero, List.getElem?_cons_succ]; rfl)
      case hr23z1 => kernel_rfl
      case hQ23z1 => exact fun _ _ _ h => h
      case hy23z1 => (refine Or.inl ⟨by rfl, ?_⟩; intro w hSw; (try dsimp only at hSw); go_simp; try with_reducible rfl)
      try simp only [Act.put, List.setIfInBounds_toArray, List.set_cons_zero, List.set_cons_succ]
      refine wpAnyH_take (i := 24) (oi := ?o24z1) (v := ?v24z1) ?hi24z1 (by kernel_rfl) (by kernel_rfl) ?hr24z1 ?hQ24z1 ?hy24z1 hHeld ?r24z1
      case hi24z1 => (simp only [List.getElem?_toArray, List.getElem?_cons_zero, List.getElem?_cons_succ]; rfl)
      case hr24z1 => kernel_rfl
      case hQ24z1 => exact fun _ _ _ h => h
      case hy24z1 => (refine Or.inl ⟨by rfl, ?_⟩; intro w hSw; (try dsimp only at hSw); go_simp; try with_reducible rfl)
      try simp only [Act.put, List.setIfInBounds_toArray, List.set_cons_zero, List.set_cons_succ]
      refine wpAnyH_take (i := 25) (oi := ?o25z1) (v := ?v25z1) ?hi25z1 (by kernel_rfl) (by kernel_rfl) ?hr25z1 ?hQ25z1 ?hy25z1 hHeld ?r25z1
      case hi25z1 => (simp only [List.getElem?_toArray, List.getElem?_cons_zero, List.getElem?_cons_succ]; rfl)
      case hr25z1 => kernel_rfl
      case hQ25z1 => exact fun _ _ _ h => h
      case hy25z1 => (refine Or.inl ⟨by rfl, ?_⟩; intro w hSw; (try dsimp only at hSw); go_simp; try with_reducible rfl)
      try simp only [Act.put, List.setIfInBounds_toArray, List.set_cons_zero, List.set_cons_succ]
      refine wpAnyH_ready (rs := [26]) (by kernel_rfl) (by simp) (AllReadyH.cons (o := ?o26z1) ?hi26z1 (fun K hK => ?r26z1) AllReadyH.nil)
      case hi26z1 => (simp only [List.getElem?_toArray, List.getElem?_cons_zero, List.getElem?_cons_succ]; rfl)
      go_simp
      refine SB2.mono ?_
      rintro e w' ⟨rfl, rfl⟩
      refine hK.out _ _ (by exact s9) (fun hHeld => ?_)
      clear hK K
      try simp only [Act.put, List.setIfInBounds_toArray, List.set_cons_zero, List.set_cons_succ]
      refine wpAnyH_take (i := 27) (oi := ?o27z1) (v := ?v27z1) ?hi27z1 (by kernel_rfl) (by kernel_rfl) ?hr27z1 ?hQ27z1 ?hy27z1 hHeld ?r27z1
      case hi27z1 => (simp only [List.getElem?_toArray, List.getElem?_cons_zero, List.getElem?_cons_succ]; rfl)
      case hr27z1 => kernel_rfl
      case hQ27z1 => exact fun _ _ _ h => h
      case hy27z1 => (refine Or.inl ⟨by rfl, ?_⟩; intro w hSw; (try dsimp only at hSw); go_simp; try with_reducible rfl)
      try simp only [Act.put, List.setIfInBounds_toArray, List.set_cons_zero, List.set_cons_succ]
      refine wpAnyH_take (i := 28) (oi := ?o28z1) (v := ?v28z1) ?hi28z1 (by kernel_rfl) (by kernel_rfl) ?hr28z1 ?hQ28z1 ?hy28z1 hHeld ?r28z1
      case hi28z1 => (simp only [List.getElem?_toArray, List.getElem?_cons_zero, List.getElem?_cons_succ]; rfl)
      case hr28z1 => kernel_rfl
      case hQ28z1 => exact fun _ _ _ h => h
      case hy28z1 => (refine Or.inl ⟨by rfl, ?_⟩; intro w hSw; (try dsimp only at hSw); go_simp; try with_reducible rfl)
      try simp only [Act.put, List.setIfInBounds_toArray, List.set_cons_zero, List.set_cons_succ]
      refine wpAnyH_done (by kernel_rfl) ?_ _
      clear t1 t2 t3 t4 t5 i0 i1 i2 i3 i4 i5 i6 i7 hw1 hw2 hw3 n1 n0 n2 s9 ba9 SB2 sX
      generalize hu : (wr.drew.alloc (.cells #[.int .u8 0, .int .u8 0, .int .u8 1, .int .u8 0, .int .u8 0, .int .u8 0, .int .u8 0, .int .u8 1, .int .u8 97] 5)) = u
      have hbu : Below w2.heap.size w2 u := by rw [← hu]; exact (below_drw HB.out).alloc HB.out.size _
      have CL := CopyLists_any u (some ⟨L, 0, none⟩) cL 2 (putB 1 1 oneI) rfl (by decide) LE.out (HO.out.below hbu)
      have HBU := hid hbu
      clear hu hbu R0 R1 R2
      go_wp2_with fail
      refine CL.mono ?_
      rintro e w6 ⟨A6, c6, av6, rfl, row6, own6, b6⟩
      clear CL
      have h4all : ∀ l ∈ putB 1 1 oneI, l.length = 4096 := fun l hl => by
        obtain ⟨i, hi, rfl⟩ := List.getElem_of_mem hl
        exact (put_stamped (E := 1) (Q := 1) one_right i _ (List.getElem?_eq_getElem hi)).1
      obtain ⟨gs6, hk6, hv6⟩ := own6.blk h4all
      rw [hv6] at row6
      obtain ⟨L6, c6', e6, _, _⟩ := own_slice1 row6 (by decide)
      simp only [Value.slice.injEq, true_and] at e6
      obtain ⟨rfl, rfl⟩ := e6
      have o6 : OwLs u.heap.size w6 L6 c6 gs6 (putB 1 1 oneI) := ⟨row6, hk6⟩
      obtain ⟨b, hbe⟩ : ∃ b, b = k % 2 := ⟨_, rfl⟩
      have hb2 : b < 2 := by omega
      have hbl : b < (putB 1 1 oneI).length := hb2
      obtain ⟨l, hl⟩ : ∃ l, l = (putB 1 1 oneI).getD (k % 2) [] := ⟨_, rfl⟩
      have hl2 : (putB 1 1 oneI)[b]? = some l := by rw [hl, ← hbe, List.getElem?_eq_getElem hbl, List.getD_eq_getElem?_getD, List.getElem?_eq_getElem hbl]; rfl
      have hl4 := h4all l (List.mem_of_getElem? hl2)
      obtain ⟨⟨g, cg⟩, hgb⟩ : ∃ x, gs6[b]? = some x := ⟨gs6[b]'(by rw [hk6.len]; exact hbl), List.getElem?_eq_getElem _⟩
      obtain ⟨hob, _⟩ := hk6.own b (g, cg) l hgb hl2
      have m0 := World.ownsRow.cellAt row6 b (by show b < 2 * 1; omega)
      rw [show (vals gs6)[b]? = some (.slice (some ⟨g, 0, none⟩) 4096 cg) by simp [vals, hgb]] at m0
      obtain ⟨_, e, _, m1, mf⟩ := hob.at_ (by intro e; rw [e] at hl4; exact absurd hl4 (by decide))
      have e := Option.some.inj e
      simp only [Addr.mk.injEq, and_true] at e
      subst e
      have m1 := m1 (k * 512 + 7) (by rw [hl4]; omega)
      have mf := mf (k * 512 + 7)
      have st := hob.store (k * 512 + 7) 2
      have K7 : Kpt (fun x => x = g) w6 (w6.setCell ⟨g, k * 512 + 7, none⟩ (.int .u8 2)) := (Kpt.refl (fun x => x = g) w6).stc rfl _
      have o7 := o6.upd hgb K7 st (by rw [List.length_set]; exact hl4)
      have hgu := hob.lt.1
      have b7 : Below u.heap.size u (w6.setCell ⟨g, k * 512 + 7, none⟩ (.int .u8 2)) := belowK b6 K7 (fun x hx => by rw [hx]; exact hgu) b6.size
      have hbad := bad_get k hlt
      rw [← hl, ← hbe] at hbad
      have cap6 := own_cap row6
      have GT := GetNo (w6.setCell ⟨g, k * 512 + 7, none⟩ (.int .u8 2)) (some ⟨L6, 0, none⟩) 2 c6 ((putB 1 1 oneI).set b (l.set (k * 512 + 7) 2)) (by rw [List.length_set]; rfl) ⟨cap6.1, by have := cap6.2; simp only [maxLen] at this; omega⟩ (by decide) (fun x hx => by
        rcases List.mem_or_eq_of_mem_set hx with hx | rfl
        · rw [h4all x hx]; decide
        · rw [List.length_set, hl4]; decide) o7.rd hbad
      have hq2 : (k : Int).tmod 2 = (b : Int) := by rw [Int.tmod_eq_emod_of_nonneg (by omega)]; omega
      have hbI : (b : Int) < 2 := by omega
      have hw7 : IntKind.i64.wrap ((k : Int) * 512 + 7) = (k : Int) * 512 + 7 := IntWalk.i64_in _ (by omega)
      have hw8 : IntKind.i64.wrap ((k : Int) * 512) = (k : Int) * 512 := IntWalk.i64_in _ (by omega)
      have ht7 : ((k : Int) * 512 + 7).toNat = k * 512 + 7 := by omega
      have hi7 : (k : Int) * 512 + 7 < 4096 := by omega
      have hi8 : (0 : Int) ≤ (k : Int) * 512 + 7 := by omega
      have HB7 := hid (HBU.out.trans (b7.mono HBU.out.size))
      clear row6 own6 hk6 hv6 o6 hbe hbl hl hl2 hl4 hgb hob st K7 o7 hgu b7 hbad cap6 b6 h4all
      go_wp2_with fail
      refine GT.mono ?_
      rintro e w8 ⟨b8, y1, y2, A, n, cc, rfl⟩
      clear GT m0 m1 mf hq2 hbI hw7 hw8 ht7 hi7 hi8
      have HB8 := hid ((HB7.out.trans (b8.mono HB7.out.size)).alloc (HB7.out.trans (b8.mono HB7.out.size)).size (.cells #[.int .i64 y1, .int .i64 y2, .slice A n cc] 28))
      clear b8
      go_wp2_with fail
      go_roundw
      case rel => exact ⟨k + 1, by omega, by go_num, HB8.out⟩
      case measure => simp [intOf]; omega
    · obtain rfl : k = 8 := by omega
      have hcm : 4096 ≤ c1 ∧ c1 ≤ 9223372036854775807 := ⟨hc10, hc11⟩
      have hch : 4096 ≤ c0 ∧ c0 ≤ 9223372036854775807 := ⟨hc00, hc01⟩
      have LT : Hid (∀ l ∈ [oneM, oneH], l.length ≤ 200000000000000) := hid (fun l hl => by
        simp only [List.mem_cons, List.not_mem_nil, or_false] at hl
        rcases hl with rfl | rfl
        · rw [oneM_length]; decide
        · rw [oneH_length]; decide)
      have hi1 : (1 : Int) ≤ (cL : Int) := by omega
      have GT := GetNo wr (some ⟨L, 0, none⟩) 1 cL [oneH] rfl ⟨by omega, hcl2⟩ (by decide) (fun l hl => by rw [List.mem_singleton.1 hl, oneH_length]; decide) (HO.out.below hb).head get_short
      have HB := hid hb
      clear hb
      go_wp2_with fail
      refine GT.mono ?_
      rintro e w4 ⟨b4, y1, y2, A, n, cc, rfl⟩
      clear GT hi1
      have hb4 := (HB.out.trans (b4.mono HB.out.size)).alloc (HB.out.trans (b4.mono HB.out.size)).size (.cells #[.int .i64 y1, .int .i64 y2, .slice A n cc] 28)
      go_wp2_with fail
      generalize w4.alloc (.cells #[.int .i64 y1, .int .i64 y2, .slice A n cc] 28) = v at hb4 ⊢
      clear b4
      have HV := hid hb4
      clear hb4
      go_cut [10] (fun x wx => x = .int .i64 80 ∧ Below w2.heap.size w2 wx)
      case first => as_aux_lemma =>
        have sV := And.intro (cell_below HV.out LS.out.1) (cell_below HV.out LS.out.2)
        have hLv : L < v.heap.size := World.block_lt_of_cell? v _ sV.1
        have sVd : v.drew.cell? ⟨L, 0, none⟩ = some (.slice (some ⟨g0, 0, none⟩) 4096 c0) ∧ v.drew.cell? ⟨L, 1, none⟩ = some (.slice (some ⟨g1, 0, none⟩) 4096 c1) := sV
        have HMV := hid (HM.out.below HV.out); have HHV := hid (HH.out.below HV.out)
        clear LE HO HM HH LS
        refine wp_region_held_drew (S := fun W1 => W1.cell? ⟨L, 0, none⟩ = some (.slice (some ⟨g0, 0, none⟩) 4096 c0) ∧ W1.cell? ⟨L, 1, none⟩ = some (.slice (some ⟨g1, 0, none⟩) 4096 c1)) (by kernel_rfl) (by exact sVd) (fun hHeld => ?_)
        refine wpAnyH_take (i := 0) (oi := ?o0z2) (v := ?v0z2) ?hi0z2 (by kernel_rfl) (by kernel_rfl) ?hr0z2 ?hQ0z2 ?hy0z2 hHeld ?r0z2
        case hi0z2 => (simp only [List.getElem?_toArray, List.getElem?_cons_zero, List.getElem?_cons_succ]; rfl)
        case hr0z2 => kernel_rfl
        case hQ0z2 => exact fun _ _ _ h => h
        case hy0z2 => (refine Or.inl ⟨by rfl, ?_⟩; intro w hSw; (try dsimp only at hSw); go_simp; try with_reducible rfl)
        try simp only [Act.put, List.setIfInBounds_toArray, List.set_cons_zero, List.set_cons_succ]
        refine wpAnyH_take (i := 1) (oi := ?o1z2) (v := ?v1z2) ?hi1z2 (by kernel_rfl) (by kernel_rfl) ?hr1z2 ?hQ1z2 ?hy1z2 hHeld ?r1z2
        case hi1z2 => (simp only [List.getElem?_toArray, List.getElem?_cons_zero, List.getElem?_cons_succ]; rfl)
        case hr1z2 => kernel_rfl
        case hQ1z2 => exact fun _ _ _ h => h
        case hy1z2 => (refine Or.inl ⟨by rfl, ?_⟩; intro w hSw; (try dsimp only at hSw); go_simp; try with_reducible rfl)
        try simp only [Act.put, List.setIfInBounds_toArray, List.set_cons_zero, List.set_cons_succ]
        refine wpAnyH_take (i := 2) (oi := ?o2z2) (v := ?v2z2) ?hi2z2 (by kernel_rfl) (by kernel_rfl) ?hr2z2 ?hQ2z2 ?hy2z2 hHeld ?r2z2
        case hi2z2 => (simp only [List.getElem?_toArray, List.getElem?_cons_zero, List.getElem?_cons_succ]; rfl)
        case hr2z2 => kernel_rfl
        case hQ2z2 => exact fun _ _ _ h => h
        case hy2z2 => (refine Or.inl ⟨by rfl, ?_⟩; intro w hSw; (try dsimp only at hSw); go_simp; try with_reducible rfl)
        try simp only [Act.put, List.setIfInBounds_toArray, List.set_cons_zero, List.set_cons_succ]
        refine wpAnyH_take (i := 3) (oi := ?o3z2) (v := ?v3z2) ?hi3z2 (by kernel_rfl) (by kernel_rfl) ?hr3z2 ?hQ3z2 ?hy3z2 hHeld ?r3z2
        case hi3z2 => (simp only [List.getElem?_toArray, List.getElem?_cons_zero, List.getElem?_cons_succ]; rfl)
        case hr3z2 => kernel_rfl
        case hQ3z2 => exact fun _ _ _ h => h
        case hy3z2 => (refine Or.inl ⟨by rfl, ?_⟩; intro w hSw; (try dsimp only at hSw); go_simp; try with_reducible rfl)
        try simp only [Act.put, List.setIfInBounds_toArray, List.set_cons_zero, List.set_cons_succ]
        refine wpAnyH_take (i := 4) (oi := ?o4z2) (v := ?v4z2) ?hi4z2 (by kernel_rfl) (by kernel_rfl) ?hr4z2 ?hQ4z2 ?hy4z2 hHeld ?r4z2
        case hi4z2 => (simp only [List.getElem?_toArray, List.getElem?_cons_zero, List.getElem?_cons_succ]; rfl)
        case hr4z2 => kernel_rfl
        case hQ4z2 => exact fun _ _ _ h => h
        case hy4z2 => (refine Or.inl ⟨by rfl, ?_⟩; intro w hSw; (try dsimp only at hSw); go_simp; try with_reducible rfl)
        try simp only [Act.put, List.setIfInBounds_toArray, List.set_cons_zero, List.set_cons_succ]
        refine wpAnyH_take (i := 5) (oi := ?o5z2) (v := ?v5z2) ?hi5z2 (by kernel_rfl) (by kernel_rfl) ?hr5z2 ?hQ5z2 ?hy5z2 hHeld ?r5z2
        case hi5z2 => (simp only [List.getElem?_toArray, List.getElem?_cons_zero, List.getElem?_cons_succ]; rfl)
        case hr5z2 => kernel_rfl
        case hQ5z2 => exact fun _ _ _ h => h
        case hy5z2 => (refine Or.inl ⟨by rfl, ?_⟩; intro w hSw; (try dsimp only at hSw); go_simp; try with_reducible rfl)
        try simp only [Act.put, List.setIfInBounds_toArray, List.set_cons_zero, List.set_cons_succ]
        refine wpAnyH_ready (rs := [6, 11]) (by kernel_rfl) (by simp) (AllReadyH.cons (o := ?p6y7) ?gi6y7 (fun K hK => ?q6y7) (AllReadyH.cons (o := ?p11y7) ?gj11y7 (fun K hK => ?q11y7) AllReadyH.nil))
        case gi6y7 => (simp only [List.getElem?_toArray, List.getElem?_cons_zero, List.getElem?_cons_succ]; rfl)
        case gj11y7 => (simp only [List.getElem?_toArray, List.getElem?_cons_zero, List.getElem?_cons_succ]; rfl)
        case q6y7 =>
          refine bs2_draw rfl 22 (.tmp 100) (.tmp 103) rfl (.slice (some ⟨g1, 0, none⟩) 4096 c1) (.slice (some ⟨g0, 0, none⟩) 4096 c0) rfl rfl _ _ (run_bsL v.drew _ _ _ _ _ _) ?_
          have d1 : Below v.heap.size v (v.drew.alloc (.cells #[.slice (some ⟨g1, 0, none⟩) 4096 c1, .slice (some ⟨g0, 0, none⟩) 4096 c0] 31)) := (below_drw (Below.refl _ _)).alloc (Nat.le_refl _) _
          have sA := And.intro (cell_below d1 sV.1) (cell_below d1 sV.2)
          have hv1 : (v.drew.alloc (.cells #[.slice (some ⟨g1, 0, none⟩) 4096 c1, .slice (some ⟨g0, 0, none⟩) 4096 c0] 31)).heap.size = v.heap.size + 1 := by simp
          have rr1 := rdls_two v.drew (HMV.out.below (below_drw (Below.refl _ _))) (HHV.out.below (below_drw (Below.refl _ _))) oneM_length.symm oneH_length.symm hcm hch 31
          refine hK.out _ _ (by exact sA) (fun hHeld => ?_)
          clear hK K
          try simp only [Act.put, List.setIfInBounds_toArray, List.set_cons_zero, List.set_cons_succ]
          refine wpAnyH_ready (rs := [7, 11]) (by kernel_rfl) (by simp) (AllReadyH.cons (o := ?p7y5) ?gi7y5 (fun K hK => ?q7y5) (AllReadyH.cons (o := ?p11y5) ?gj11y5 (fun K hK => ?q11y5) AllReadyH.nil))
          case gi7y5 => (simp only [List.getElem?_toArray, List.getElem?_cons_zero, List.getElem?_cons_succ]; rfl)
          case gj11y5 => (simp only [List.getElem?_toArray, List.getElem?_cons_zero, List.getElem?_cons_succ]; rfl)
          case q7y5 =>
            go_simp
            have GT := GetNo (v.drew.alloc (.cells #[.slice (some ⟨g1, 0, none⟩) 4096 c1, .slice (some ⟨g0, 0, none⟩) 4096 c0] 31)) (some ⟨v.heap.size, 0, none⟩) 2 2 [oneM, oneH] rfl ⟨Nat.le_refl _, by decide⟩ (by decide) LT.out rr1 get_turned
            refine GT.mono ?_
            rintro e w4 ⟨b4, y1, y2, A, n, cc, rfl⟩
            clear GT
            have s4 := And.intro (cell_below b4 sA.1) (cell_below b4 sA.2)
            refine hK.out _ _ (by exact s4) (fun hHeld => ?_)
            clear hK K
            try simp only [Act.put, List.setIfInBounds_toArray, List.set_cons_zero, List.set_cons_succ]
            refine wpAnyH_take (i := 8) (oi := ?o8z3) (v := ?v8z3) ?hi8z3 (by kernel_rfl) (by kernel_rfl) ?hr8z3 ?hQ8z3 ?hy8z3 hHeld ?r8z3
            case hi8z3 => (simp only [List.getElem?_toArray, List.getElem?_cons_zero, List.getElem?_cons_succ]; rfl)
            case hr8z3 => kernel_rfl
            case hQ8z3 => exact fun _ _ _ h => h
            case hy8z3 => (refine Or.inl ⟨by rfl, ?_⟩; intro w hSw; (try dsimp only at hSw); go_simp; try with_reducible rfl)
            try simp only [Act.put, List.setIfInBounds_toArray, List.set_cons_zero, List.set_cons_succ]
            refine wpAnyH_take (i := 9) (oi := ?o9z3) (v := ?v9z3) ?hi9z3 (by kernel_rfl) (by kernel_rfl) ?hr9z3 ?hQ9z3 ?hy9z3 hHeld ?r9z3
            case hi9z3 => (simp only [List.getElem?_toArray, List.getElem?_cons_zero, List.getElem?_cons_succ]; rfl)
            case hr9z3 => kernel_rfl
            case hQ9z3 => exact fun _ _ _ h => h
            case hy9z3 => (refine Or.inl ⟨by rfl, ?_⟩; intro w hSw; (try dsimp only at hSw); go_simp; try with_reducible rfl)
            try simp only [Act.put, List.setIfInBounds_toArray, List.set_cons_zero, List.set_cons_succ]
            refine wpAnyH_take (i := 10) (oi := ?o10z3) (v := ?v10z3) ?hi10z3 (by kernel_rfl) (by kernel_rfl) ?hr10z3 ?hQ10z3 ?hy10z3 hHeld ?r10z3
            case hi10z3 => (simp only [List.getElem?_toArray, List.getElem?_cons_zero, List.getElem?_cons_succ]; rfl)
            case hr10z3 => kernel_rfl
            case hQ10z3 => exact fun _ _ _ h => h
            case hy10z3 => (refine Or.inl ⟨by rfl, ?_⟩; intro w hSw; (try dsimp only at hSw); go_simp; try with_reducible rfl)
            try simp only [Act.put, List.setIfInBounds_toArray, List.set_cons_zero, List.set_cons_succ]
            refine wpAnyH_ready (rs := [11]) (by kernel_rfl) (by simp) (AllReadyH.cons (o := ?o11z3) ?hi11z3 (fun K hK => ?r11z3) AllReadyH.nil)
            case hi11z3 => (simp only [List.getElem?_toArray, List.getElem?_cons_zero, List.getElem?_cons_succ]; rfl)
            go_simp
            have d4 := d1.trans (b4.mono d1.size)
            have d5 : Below v.heap.size v (w4.alloc (.cells #[.int .i64 0, .int .i64 0, .slice none 0 0] 28)) := d4.alloc d4.size _
            have s4a := And.intro (cell_below d5 sV.1) (cell_below d5 sV.2)
            have hz4 := heap_alloc_new w4 (.cells #[.int .i64 0, .int .i64 0, .slice none 0 0] 28)
            have d6 : Below v.heap.size v (w4.alloc (.cells #[.int .i64 y1, .int .i64 y2, .slice A n cc] 28)) := d4.alloc d4.size _
            have s5 := And.intro (cell_below d6 sV.1) (cell_below d6 sV.2)
            obtain ⟨z0, z1, z2⟩ := cells3 hz4
            have f0 := frozen_of_row _ (w4.heap.size) 0 _ _ hz4
            have f1 := frozen_of_row _ (w4.heap.size) 1 _ _ hz4
            have f2 := frozen_of_row _ (w4.heap.size) 2 _ _ hz4
            refine hK.out _ _ (by exact s4a) (fun hHeld => ?_)
            clear hK K
            try simp only [Act.put, List.setIfInBounds_toArray, List.set_cons_zero, List.set_cons_succ]
            refine wpAnyH_ready (rs := [12]) (by kernel_rfl) (by simp) (AllReadyH.cons (o := ?o12z3) ?hi12z3 (fun K hK => ?r12z3) AllReadyH.nil)
            case hi12z3 => (simp only [List.getElem?_toArray, List.getElem?_cons_zero, List.getElem?_cons_succ]; rfl)
            go_simp
            refine hK.out _ _ (by exact s5) (fun hHeld => ?_)
            clear hK K
            try simp only [Act.put, List.setIfInBounds_toArray, List.set_cons_zero, List.set_cons_succ]
            refine wpAnyH_take (i := 13) (oi := ?o13z3) (v := ?v13z3) ?hi13z3 (by kernel_rfl) (by kernel_rfl) ?hr13z3 ?hQ13z3 ?hy13z3 hHeld ?r13z3
            case hi13z3 => (simp only [List.getElem?_toArray, List.getElem?_cons_zero, List.getElem?_cons_succ]; rfl)
            case hr13z3 => kernel_rfl
            case hQ13z3 => exact fun _ _ _ h => h
            case hy13z3 => (refine Or.inl ⟨by rfl, ?_⟩; intro w hSw; (try dsimp only at hSw); go_simp; try with_reducible rfl)
            try simp only [Act.put, List.setIfInBounds_toArray, List.set_cons_zero, List.set_cons_succ]
            refine wpAnyH_done (by kernel_rfl) ?_ _
            go_wp2_with fail
            go_meet
            exact ⟨rfl, HV.out.trans (d6.mono HV.out.size)⟩
          case q11y5 =>
            go_simp
            have d2 : Below v.heap.size v ((v.drew.alloc (.cells #[.slice (some ⟨g1, 0, none⟩) 4096 c1, .slice (some ⟨g0, 0, none⟩) 4096 c0] 31)).alloc (.cells #[.int .i64 0, .int .i64 0, .slice none 0 0] 28)) := d1.alloc d1.size _
            have sB := And.intro (cell_below d2 sV.1) (cell_below d2 sV.2)
            have hz2 := heap_alloc_new (v.drew.alloc (.cells #[.slice (some ⟨g1, 0, none⟩) 4096 c1, .slice (some ⟨g0, 0, none⟩) 4096 c0] 31)) (.cells #[.int .i64 0, .int .i64 0, .slice none 0 0] 28)
            rw [hv1] at hz2
            have rr2 := rr1.below (w' := ((v.drew.alloc (.cells #[.slice (some ⟨g1, 0, none⟩) 4096 c1, .slice (some ⟨g0, 0, none⟩) 4096 c0] 31)).alloc (.cells #[.int .i64 0, .int .i64 0, .slice none 0 0] 28))) ((Below.refl _ _).alloc (Nat.le_refl _) _)
            refine hK.out _ _ (by exact sB) (fun hHeld => ?_)
            clear hK K
            try simp only [Act.put, List.setIfInBounds_toArray, List.set_cons_zero, List.set_cons_succ]
            refine wpAnyH_ready (rs := [7]) (by kernel_rfl) (by simp) (AllReadyH.cons (o := ?o7z4) ?hi7z4 (fun K hK => ?r7z4) AllReadyH.nil)
            case hi7z4 => (simp only [List.getElem?_toArray, List.getElem?_cons_zero, List.getElem?_cons_succ]; rfl)
            go_simp
            have GT := GetNo ((v.drew.alloc (.cells #[.slice (some ⟨g1, 0, none⟩) 4096 c1, .slice (some ⟨g0, 0, none⟩) 4096 c0] 31)).alloc (.cells #[.int .i64 0, .int .i64 0, .slice none 0 0] 28)) (some ⟨v.heap.size, 0, none⟩) 2 2 [oneM, oneH] rfl ⟨Nat.le_refl _, by decide⟩ (by decide) LT.out rr2 get_turned
            refine GT.mono ?_
            rintro e w4 ⟨b4, y1, y2, A, n, cc, rfl⟩
            clear GT
            have s4 := And.intro (cell_below b4 sB.1) (cell_below b4 sB.2)
            have hz4 := (b4.block _ (heap_in hz2)).trans hz2
            obtain ⟨z0, z1, z2⟩ := cells3 hz4
            have f0 := frozen_of_row _ (v.heap.size + 1) 0 _ _ hz4
            have f1 := frozen_of_row _ (v.heap.size + 1) 1 _ _ hz4
            have f2 := frozen_of_row _ (v.heap.size + 1) 2 _ _ hz4
            have hst := set3 hz4 (.int .i64 y1) (.int .i64 y2) (.slice A n cc)
            have s5 := And.intro (hst.2.cell s4.1 (by omega)) (hst.2.cell s4.2 (by omega))
            have HST := hid hst.2
            clear hst
            refine hK.out _ _ (by exact s4) (fun hHeld => ?_)
            clear hK K
            try simp only [Act.put, List.setIfInBounds_toArray, List.set_cons_zero, List.set_cons_succ]
            refine wpAnyH_take (i := 8) (oi := ?o8z4) (v := ?v8z4) ?hi8z4 (by kernel_rfl) (by kernel_rfl) ?hr8z4 ?hQ8z4 ?hy8z4 hHeld ?r8z4
            case hi8z4 => (simp only [List.getElem?_toArray, List.getElem?_cons_zero, List.getElem?_cons_succ]; rfl)
            case hr8z4 => kernel_rfl
            case hQ8z4 => exact fun _ _ _ h => h
            case hy8z4 => (refine Or.inl ⟨by rfl, ?_⟩; intro w hSw; (try dsimp only at hSw); go_simp; try with_reducible rfl)
            try simp only [Act.put, List.setIfInBounds_toArray, List.set_cons_zero, List.set_cons_succ]
            refine wpAnyH_take (i := 9) (oi := ?o9z4) (v := ?v9z4) ?hi9z4 (by kernel_rfl) (by kernel_rfl) ?hr9z4 ?hQ9z4 ?hy9z4 hHeld ?r9z4
            case hi9z4 => (simp only [List.getElem?_toArray, List.getElem?_cons_zero, List.getElem?_cons_succ]; rfl)
            case hr9z4 => kernel_rfl
            case hQ9z4 => exact fun _ _ _ h => h
            case hy9z4 => (refine Or.inl ⟨by rfl, ?_⟩; intro w hSw; (try dsimp only at hSw); go_simp; try with_reducible rfl)
            try simp only [Act.put, List.setIfInBounds_toArray, List.set_cons_zero, List.set_cons_succ]
            refine wpAnyH_take (i := 10) (oi := ?o10z4) (v := ?v10z4) ?hi10z4 (by kernel_rfl) (by kernel_rfl) ?hr10z4 ?hQ10z4 ?hy10z4 hHeld ?r10z4
            case hi10z4 => (simp only [List.getElem?_toArray, List.getElem?_cons_zero, List.getElem?_cons_succ]; rfl)
            case hr10z4 => kernel_rfl
            case hQ10z4 => exact fun _ _ _ h => h
            case hy10z4 => (refine Or.inl ⟨by rfl, ?_⟩; intro w hSw; (try dsimp only at hSw); go_simp; try with_reducible rfl)
            try simp only [Act.put, List.setIfInBounds_toArray, List.set_cons_zero, List.set_cons_succ]
            refine wpAnyH_ready (rs := [12]) (by kernel_rfl) (by simp) (AllReadyH.cons (o := ?o12z4) ?hi12z4 (fun K hK => ?r12z4) AllReadyH.nil)
            case hi12z4 => (simp only [List.getElem?_toArray, List.getElem?_cons_zero, List.getElem?_cons_succ]; rfl)
            go_simp
            refine hK.out _ _ (by exact s5) (fun hHeld => ?_)
            clear hK K
            try simp only [Act.put, List.setIfInBounds_toArray, List.set_cons_zero, List.set_cons_succ]
            refine wpAnyH_take (i := 13) (oi := ?o13z4) (v := ?v13z4) ?hi13z4 (by kernel_rfl) (by kernel_rfl) ?hr13z4 ?hQ13z4 ?hy13z4 hHeld ?r13z4
            case hi13z4 => (simp only [List.getElem?_toArray, List.getElem?_cons_zero, List.getElem?_cons_succ]; rfl)
            case hr13z4 => kernel_rfl
            case hQ13z4 => exact fun _ _ _ h => h
            case hy13z4 => (refine Or.inl ⟨by rfl, ?_⟩; intro w hSw; (try dsimp only at hSw); go_simp; try with_reducible rfl)
            try simp only [Act.put, List.setIfInBounds_toArray, List.set_cons_zero, List.set_cons_succ]
            refine wpAnyH_done (by kernel_rfl) ?_ _
            go_wp2_with fail
            go_meet
            exact ⟨rfl, belowK (HV.out.trans ((d2.trans (b4.mono d2.size)).mono HV.out.size)) HST.out (fun b hb => by have := HV.out.size; omega) (by have := HV.out.size; have := d2.size; have := b4.size; omega)⟩
        case q11y7 =>
          go_simp
          have d1 : Below v.heap.size v (v.drew.alloc (.cells #[.int .i64 0, .int .i64 0, .slice none 0 0] 28)) := (below_drw (Below.refl _ _)).alloc (Nat.le_refl _) _
          have sA := And.intro (cell_below d1 sV.1) (cell_below d1 sV.2)
          have hz1 : (v.drew.alloc (.cells #[.int .i64 0, .int .i64 0, .slice none 0 0] 28)).heap[v.heap.size]? = some (.cells #[.int .i64 0, .int .i64 0, .slice none 0 0] 28 (0, 0)) := heap_alloc_new v.drew (.cells #[.int .i64 0, .int .i64 0, .slice none 0 0] 28)
          have hv1 : (v.drew.alloc (.cells #[.int .i64 0, .int .i64 0, .slice none 0 0] 28)).heap.size = v.heap.size + 1 := by simp
          refine hK.out _ _ (by exact sA) (fun hHeld => ?_)
          clear hK K
          try simp only [Act.put, List.setIfInBounds_toArray, List.set_cons_zero, List.set_cons_succ]
          refine wpAnyH_ready (rs := [6]) (by kernel_rfl) (by simp) (AllReadyH.cons (o := ?o6z6) ?hi6z6 (fun K hK => ?r6z6) AllReadyH.nil)
          case hi6z6 => (simp only [List.getElem?_toArray, List.getElem?_cons_zero, List.getElem?_cons_succ]; rfl)
          refine bs2_draw rfl 22 (.tmp 100) (.tmp 103) rfl (.slice (some ⟨g1, 0, none⟩) 4096 c1) (.slice (some ⟨g0, 0, none⟩) 4096 c0) rfl rfl _ _ (run_bsL (v.drew.alloc (.cells #[.int .i64 0, .int .i64 0, .slice none 0 0] 28)) _ _ _ _ _ _) ?_
          have d2 : Below v.heap.size v ((v.drew.alloc (.cells #[.int .i64 0, .int .i64 0, .slice none 0 0] 28)).alloc (.cells #[.slice (some ⟨g1, 0, none⟩) 4096 c1, .slice (some ⟨g0, 0, none⟩) 4096 c0] 31)) := d1.alloc d1.size _
          have sB := And.intro (cell_below d2 sV.1) (cell_below d2 sV.2)
          have hz2 := (Below.heap_alloc (v.drew.alloc (.cells #[.int .i64 0, .int .i64 0, .slice none 0 0] 28)) (.cells #[.slice (some ⟨g1, 0, none⟩) 4096 c1, .slice (some ⟨g0, 0, none⟩) 4096 c0] 31) _ (heap_in hz1)).trans hz1
          refine hK.out _ _ (by exact sB) (fun hHeld => ?_)
          clear hK K
          try simp only [Act.put, List.setIfInBounds_toArray, List.set_cons_zero, List.set_cons_succ]
          refine wpAnyH_ready (rs := [7]) (by kernel_rfl) (by simp) (AllReadyH.cons (o := ?o7z6) ?hi7z6 (fun K hK => ?r7z6) AllReadyH.nil)
          case hi7z6 => (simp only [List.getElem?_toArray, List.getElem?_cons_zero, List.getElem?_cons_succ]; rfl)
          skip
          go_simp
          have GT := GetNo ((v.drew.alloc (.cells #[.int .i64 0, .int .i64 0, .slice none 0 0] 28)).alloc (.cells #[.slice (some ⟨g1, 0, none⟩) 4096 c1, .slice (some ⟨g0, 0, none⟩) 4096 c0] 31)) (some ⟨v.heap.size + 1, 0, none⟩) 2 2 [oneM, oneH] rfl ⟨Nat.le_refl _, by decide⟩ (by decide) LT.out (by have := rdls_two (v.drew.alloc (.cells #[.int .i64 0, .int .i64 0, .slice none 0 0] 28)) (HMV.out.below d1) (HHV.out.below d1) oneM_length.symm oneH_length.symm hcm hch 31; rw [hv1] at this; exact this) get_turned
          refine GT.mono ?_
          rintro e w4 ⟨b4, y1, y2, A, n, cc, rfl⟩
          clear GT
          have s4 := And.intro (cell_below b4 sB.1) (cell_below b4 sB.2)
          have hz4 := (b4.block _ (heap_in hz2)).trans hz2
          have hlt := heap_in hz4
          obtain ⟨z0, z1, z2⟩ := cells3 hz4
          have f0 := frozen_of_row _ (v.heap.size) 0 _ _ hz4
          have f1 := frozen_of_row _ (v.heap.size) 1 _ _ hz4
          have f2 := frozen_of_row _ (v.heap.size) 2 _ _ hz4
          have hst := set3 hz4 (.int .i64 y1) (.int .i64 y2) (.slice A n cc)
          have s5 := And.intro (hst.2.cell s4.1 (by omega)) (hst.2.cell s4.2 (by omega))
          have HST := hid hst.2
          clear hst
          refine hK.out _ _ (by exact s4) (fun hHeld => ?_)
          clear hK K
          try simp only [Act.put, List.setIfInBounds_toArray, List.set_cons_zero, List.set_cons_succ]
          refine wpAnyH_take (i := 8) (oi := ?o8z6) (v := ?v8z6) ?hi8z6 (by kernel_rfl) (by kernel_rfl) ?hr8z6 ?hQ8z6 ?hy8z6 hHeld ?r8z6
          case hi8z6 => (simp only [List.getElem?_toArray, List.getElem?_cons_zero, List.getElem?_cons_succ]; rfl)
          case hr8z6 => kernel_rfl
          case hQ8z6 => exact fun _ _ _ h => h
          case hy8z6 => (refine Or.inl ⟨by rfl, ?_⟩; intro w hSw; (try dsimp only at hSw); go_simp; try with_reducible rfl)
          try simp only [Act.put, List.setIfInBounds_toArray, List.set_cons_zero, List.set_cons_succ]
          refine wpAnyH_take (i := 9) (oi := ?o9z6) (v := ?v9z6) ?hi9z6 (by kernel_rfl) (by kernel_rfl) ?hr9z6 ?hQ9z6 ?hy9z6 hHeld ?r9z6
          case hi9z6 => (simp only [List.getElem?_toArray, List.getElem?_cons_zero, List.getElem?_cons_succ]; rfl)
          case hr9z6 => kernel_rfl
          case hQ9z6 => exact fun _ _ _ h => h
          case hy9z6 => (refine Or.inl ⟨by rfl, ?_⟩; intro w hSw; (try dsimp only at hSw); go_simp; try with_reducible rfl)
          try simp only [Act.put, List.setIfInBounds_toArray, List.set_cons_zero, List.set_cons_succ]
          refine wpAnyH_take (i := 10) (oi := ?o10z6) (v := ?v10z6) ?hi10z6 (by kernel_rfl) (by kernel_rfl) ?hr10z6 ?hQ10z6 ?hy10z6 hHeld ?r10z6
          case hi10z6 => (simp only [List.getElem?_toArray, List.getElem?_cons_zero, List.getElem?_cons_succ]; rfl)
          case hr10z6 => kernel_rfl
          case hQ10z6 => exact fun _ _ _ h => h
          case hy10z6 => (refine Or.inl ⟨by rfl, ?_⟩; intro w hSw; (try dsimp only at hSw); go_simp; try with_reducible rfl)
          try simp only [Act.put, List.setIfInBounds_toArray, List.set_cons_zero, List.set_cons_succ]
          refine wpAnyH_ready (rs := [12]) (by kernel_rfl) (by simp) (AllReadyH.cons (o := ?o12z6) ?hi12z6 (fun K hK => ?r12z6) AllReadyH.nil)
          case hi12z6 => (simp only [List.getElem?_toArray, List.getElem?_cons_zero, List.getElem?_cons_succ]; rfl)
          go_simp
          refine hK.out _ _ (by exact s5) (fun hHeld => ?_)
          clear hK K
          try simp only [Act.put, List.setIfInBounds_toArray, List.set_cons_zero, List.set_cons_succ]
          refine wpAnyH_take (i := 13) (oi := ?o13z6) (v := ?v13z6) ?hi13z6 (by kernel_rfl) (by kernel_rfl) ?hr13z6 ?hQ13z6 ?hy13z6 hHeld ?r13z6
          case hi13z6 => (simp only [List.getElem?_toArray, List.getElem?_cons_zero, List.getElem?_cons_succ]; rfl)
          case hr13z6 => kernel_rfl
          case hQ13z6 => exact fun _ _ _ h => h
          case hy13z6 => (refine Or.inl ⟨by rfl, ?_⟩; intro w hSw; (try dsimp only at hSw); go_simp; try with_reducible rfl)
          try simp only [Act.put, List.setIfInBounds_toArray, List.set_cons_zero, List.set_cons_succ]
          refine wpAnyH_done (by kernel_rfl) ?_ _
          go_wp2_with fail
          go_meet
          exact ⟨rfl, belowK (HV.out.trans ((d2.trans (b4.mono d2.size)).mono HV.out.size)) HST.out (fun b hb => by have := HV.out.size; omega) (by have := HV.out.size; have := d2.size; have := b4.size; omega)⟩
      case rest =>
        obtain ⟨rfl, hbc⟩ := hcut
        have HB := hid hbc
        have GT := GetNo wc none 0 0 [] rfl ⟨Nat.le_refl _, by decide⟩ (by decide) (fun l hl => by simp at hl) (RdLs.nil _ _) rfl
        clear hbc
        go_wp2_with fail
        refine GT.mono ?_
        rintro e w4 ⟨b4, y1, y2, A, n, cc, rfl⟩
        clear GT
        have hb4 := (HB.out.trans (b4.mono HB.out.size)).alloc (HB.out.trans (b4.mono HB.out.size)).size (.cells #[.int .i64 y1, .int .i64 y2, .slice A n cc] 28)
        have HB4 := hid hb4
        have PT := PutNo (w4.alloc (.cells #[.int .i64 y1, .int .i64 y2, .slice A n cc] 28)) 1 1 none 0 0 [] rfl (RdG.nil _ _) no_none
        clear b4 hb4
        go_wp2_with (with_reducible refine bd2_step rfl 28 (.const (.int .i64 1)) (.const (.int .i64 1)) rfl (.int .i64 1) (.int .i64 1) rfl rfl _ _ (run_bdG2 _ _ _) ?_)
        refine PT.mono ?_
        rintro e w5 ⟨rfl, b5⟩
        clear PT
        have HB5 := hid (HB4.out.trans (b5.mono HB4.out.size))
        clear b5
        go_wp2_with fail
        refine (many_any w5 33 33 rfl (by decide)).mono ?_
        rintro e w6 ⟨b6, A6, c6, rfl, r6⟩
        have PT := PutNo w6 8388608 549755813888 A6 33 c6 (manyI 33) (manyI_length 33).symm r6 no_many
        have HB6 := hid (HB5.out.trans (b6.mono HB5.out.size))
        clear b6 r6
        go_wp2_with fail
        refine PT.mono ?_
        rintro e w7 ⟨rfl, b7⟩
        clear PT
        have HB7 := hid (HB6.out.trans (b7.mono HB6.out.size))
        clear b7
        have FL : ∀ W : World, Calls Try.prog 13 #[.int .u8 0] W fun e w' => ∃ g, e = .returned (.slice (some ⟨g, 0, none⟩) 4096 4096) ∧ OwnB W.heap.size w' (some ⟨g, 0, none⟩) 4096 (List.replicate 4096 0) ∧ Below W.heap.size W w' := fun W => filled_any W 0
        have FL := hid FL
        go_wp2_with fail
        refine (FL.out w7).mono ?_
        rintro e w8 ⟨ga, rfl, oa, b8⟩
        have HB8 := hid (HB7.out.trans (b8.mono HB7.out.size)); have OA := hid oa.rd
        clear b8 oa
        go_wp2_with (with_reducible refine bd2_step rfl 38 (.const (.int .i64 1)) (.tmp 123) rfl (.int .i64 1) (.slice (some ⟨ga, 0, none⟩) 4096 4096) rfl rfl _ _ (run_bdI _ _ _ _ _) ?_)
        refine (FL.out w8).mono ?_
        rintro e w9 ⟨gb, rfl, ob, b9⟩
        have HB9 := hid (HB8.out.trans (b9.mono HB8.out.size))
        have PT := PutNo (w9.alloc (.cells #[.int .i64 1, .slice (some ⟨ga, 0, none⟩) 4096 4096, .int .i64 1, .slice (some ⟨gb, 0, none⟩) 4096 4096] 38)) 1 1 (some ⟨w9.heap.size, 0, none⟩) 2 2 [(1, List.replicate 4096 0), (1, List.replicate 4096 0)] rfl (rdg_two w9 1 1 (OA.out.below b9) ob.rd (by rw [List.length_replicate]) (by rw [List.length_replicate]) (by decide) (by decide) _) no_two
        have HB9a := hid (HB9.out.alloc HB9.out.size (.cells #[.int .i64 1, .slice (some ⟨ga, 0, none⟩) 4096 4096, .int .i64 1, .slice (some ⟨gb, 0, none⟩) 4096 4096] 38))
        clear b9 ob
        go_wp2_with (first
          | (with_reducible refine bd2_step rfl 38 (.const (.int .i64 1)) (.tmp 125) rfl (.int .i64 1) (.slice (some ⟨gb, 0, none⟩) 4096 4096) rfl rfl _ _ (run_bdI _ _ _ _ _) ?_)
          | (with_reducible refine bs2_step rfl 26 (.tmp 124) (.tmp 126) rfl (.agg #[.int .i64 1, .slice (some ⟨ga, 0, none⟩) 4096 4096]) (.agg #[.int .i64 1, .slice (some ⟨gb, 0, none⟩) 4096 4096]) rfl rfl _ _ (run_bsI2 _ _ _ _ _ _ _ _ _) ?_)
          | (with_reducible refine bd3_step rfl 28 (.const (.int .i64 1)) (.const (.int .i64 1)) (.tmp 127) rfl (.int .i64 1) (.int .i64 1) (.slice (some ⟨w9.heap.size, 0, none⟩) 2 2) rfl rfl rfl _ _ (run_bdG3 _ _ _ _ _ _) ?_))
        refine PT.mono ?_
        rintro e v10 ⟨rfl, b10⟩
        clear PT
        have HB10 := hid (HB9a.out.trans (b10.mono HB9a.out.size))
        clear b10
        go_wp2_with fail
        refine (FL.out v10).mono ?_
        rintro e v11 ⟨gd, rfl, od, b11⟩
        have HB11 := hid (HB10.out.trans (b11.mono HB10.out.size))
        have PT := PutNo (v11.alloc (.cells #[.int .i64 512, .slice (some ⟨gd, 0, none⟩) 4096 4096] 38)) 1 1 (some ⟨v11.heap.size, 0, none⟩) 1 1 [(512, List.replicate 4096 0)] rfl (rdg_one v11 512 od.rd (by rw [List.length_replicate]) (by decide) _) no_high
        have HB11a := hid (HB11.out.alloc HB11.out.size (.cells #[.int .i64 512, .slice (some ⟨gd, 0, none⟩) 4096 4096] 38))
        clear b11 od
        go_wp2_with (first
          | (with_reducible refine bd2_step rfl 38 (.const (.int .i64 512)) (.tmp 133) rfl (.int .i64 512) (.slice (some ⟨gd, 0, none⟩) 4096 4096) rfl rfl _ _ (run_bdI _ _ _ _ _) ?_)
          | (with_reducible refine bs1_step rfl 26 (.tmp 134) rfl (.agg #[.int .i64 512, .slice (some ⟨gd, 0, none⟩) 4096 4096]) rfl _ _ (run_bsI1 _ _ _ _ _) ?_)
          | (with_reducible refine bd3_step rfl 28 (.const (.int .i64 1)) (.const (.int .i64 1)) (.tmp 135) rfl (.int .i64 1) (.int .i64 1) (.slice (some ⟨v11.heap.size, 0, none⟩) 1 1) rfl rfl rfl _ _ (run_bdG3 _ _ _ _ _ _) ?_))
        refine PT.mono ?_
        rintro e v12 ⟨rfl, b12⟩
        clear PT
        have HB12 := hid (HB11a.out.trans (b12.mono HB11a.out.size))
        clear b12
        go_wp2_with fail
        refine (FL.out v12).mono ?_
        rintro e v13 ⟨ge, rfl, oe, b13⟩
        have HB13 := hid (HB12.out.trans (b13.mono HB12.out.size))
        have rp := oe.rd.part 0 4095
        rw [Nat.zero_add, List.drop_zero, List.take_replicate] at rp
        have PT := PutNo (v13.alloc (.cells #[.int .i64 1, .slice (some ⟨ge, 0, none⟩) 4095 4096] 38)) 1 1 (some ⟨v13.heap.size, 0, none⟩) 1 1 [(1, List.replicate 4095 0)] rfl (rdg_one v13 1 rp (by rw [List.length_replicate]; rfl) (by decide) _) no_short
        have HB13a := hid (HB13.out.alloc HB13.out.size (.cells #[.int .i64 1, .slice (some ⟨ge, 0, none⟩) 4095 4096] 38))
        clear b13 oe rp
        go_wp2_with (first
          | (with_reducible refine bd2_step rfl 38 (.const (.int .i64 1)) (.tmp 142) rfl (.int .i64 1) (.slice (some ⟨ge, 0, none⟩) 4095 4096) rfl rfl _ _ (run_bdI _ _ _ _ _) ?_)
          | (with_reducible refine bs1_step rfl 26 (.tmp 143) rfl (.agg #[.int .i64 1, .slice (some ⟨ge, 0, none⟩) 4095 4096]) rfl _ _ (run_bsI1 _ _ _ _ _) ?_)
          | (with_reducible refine bd3_step rfl 28 (.const (.int .i64 1)) (.const (.int .i64 1)) (.tmp 144) rfl (.int .i64 1) (.int .i64 1) (.slice (some ⟨v13.heap.size, 0, none⟩) 1 1) rfl rfl rfl _ _ (run_bdG3 _ _ _ _ _ _) ?_))
        refine PT.mono ?_
        rintro e v14 ⟨rfl, b14⟩
        clear PT
        have HB14 := hid (HB13a.out.trans (b14.mono HB13a.out.size))
        clear b14
        go_wp2_with fail
        refine (many_any v14 32 32 rfl (by decide)).mono ?_
        rintro e v15 ⟨b15, A15, c15, rfl, r15⟩
        have PT := Put_any v15 ((8388608 : Nat) : Int) ((549755813888 : Nat) : Int) A15 32 c15 (manyI 32) (manyI_length 32).symm r15
        rw [many_right] at PT
        have HB15 := hid (HB14.out.trans (b15.mono HB14.out.size))
        clear b15 r15
        go_wp2_with fail
        refine PT.mono ?_
        rintro e v16 ⟨b16, -, hyes⟩
        obtain ⟨Lx, cx, gsx, rfl, ox⟩ := hyes trivial
        clear PT hyes
        have hxl : (putB 8388608 549755813888 (manyI 32)).length = 33 := by rw [putB_length, manyI_length]
        have capx := own_cap ox.row
        rw [Int.toNat_natCast, Int.toNat_natCast, hxl] at capx
        have GT := GetPut v16 Lx cx 32 8388608 549755813888 (manyI 32) (manyI_length 32).symm many_right ⟨capx.1, by have := capx.2; simp only [maxLen] at this; omega⟩ ox.rd
        have HB16 := hid (HB15.out.trans (b16.mono HB15.out.size))
        clear b16 ox capx hxl
        go_wp2_with fail
        refine GT.mono ?_
        rintro e v17 ⟨b17, Ay, cy, gsy, rfl, oy⟩
        clear GT
        have ry := oy.rd
        have hzm : ((manyI 32).map (·.1)).zip ((manyI 32).map (·.2)) = manyI 32 := by simp [List.zip_map']
        rw [hzm] at ry
        have ba : Below v17.heap.size v17 (v17.alloc (.cells #[.int .i64 8388608, .int .i64 549755813888, .slice Ay 32 cy] 28)) := (Below.refl _ _).alloc (Nat.le_refl _) _
        have hG := heap_alloc_new v17 (.cells #[.int .i64 8388608, .int .i64 549755813888, .slice Ay 32 cy] 28)
        have hb17 := HB16.out.trans ((b17.trans (ba.mono b17.size)).mono HB16.out.size)
        have rya := ry.below ba
        go_wp2_with fail
        generalize hgv : v17.heap.size = gy at *
        generalize hvv : v17.alloc (.cells #[.int .i64 8388608, .int .i64 549755813888, .slice Ay 32 cy] 28) = v18 at *
        obtain ⟨x0, x1, x2⟩ := cells3 hG
        have sX : v18.drew.cell? ⟨gy, 0, none⟩ = some (.int .i64 8388608) ∧ v18.drew.cell? ⟨gy, 1, none⟩ = some (.int .i64 549755813888) ∧ v18.drew.cell? ⟨gy, 2, none⟩ = some (.slice Ay 32 cy) := ⟨x0, x1, x2⟩
        have RY : Hid (RdG v18.drew Ay (manyI 32)) := hid (rya.below (below_drw (Below.refl _ _)))
        have HB18 : Hid (Below w2.heap.size w2 v18.drew) := hid (below_drw hb17)
        clear hgv hvv hG rya hb17 ba ry hzm oy b17 x0 x1 x2
        go_wp2_with fail
        refine wp_region_held_drew (S := fun W1 => W1.cell? ⟨gy, 0, none⟩ = some (.int .i64 8388608) ∧ W1.cell? ⟨gy, 1, none⟩ = some (.int .i64 549755813888) ∧ W1.cell? ⟨gy, 2, none⟩ = some (.slice Ay 32 cy)) (by kernel_rfl) (by exact sX) (fun hHeld => ?_)
        refine wpAnyH_take (i := 0) (oi := ?o0z8) (v := ?v0z8) ?hi0z8 (by kernel_rfl) (by kernel_rfl) ?hr0z8 ?hQ0z8 ?hy0z8 hHeld ?r0z8
        case hi0z8 => (simp only [List.getElem?_toArray, List.getElem?_cons_zero, List.getElem?_cons_succ]; rfl)
        case hr0z8 => kernel_rfl
        case hQ0z8 => exact fun _ _ _ h => h
        case hy0z8 => (refine Or.inl ⟨by rfl, ?_⟩; intro w hSw; (try dsimp only at hSw); go_simp; try with_reducible rfl)
        try simp only [Act.put, List.setIfInBounds_toArray, List.set_cons_zero, List.set_cons_succ]
        refine wpAnyH_take (i := 1) (oi := ?o1z8) (v := ?v1z8) ?hi1z8 (by kernel_rfl) (by kernel_rfl) ?hr1z8 ?hQ1z8 ?hy1z8 hHeld ?r1z8
        case hi1z8 => (simp only [List.getElem?_toArray, List.getElem?_cons_zero, List.getElem?_cons_succ]; rfl)
        case hr1z8 => kernel_rfl
        case hQ1z8 => exact fun _ _ _ h => h
        case hy1z8 => (refine Or.inl ⟨by rfl, ?_⟩; intro w hSw; (try dsimp only at hSw); go_simp; try with_reducible rfl)
        try simp only [Act.put, List.setIfInBounds_toArray, List.set_cons_zero, List.set_cons_succ]
        refine wpAnyH_take (i := 2) (oi := ?o2z8) (v := ?v2z8) ?hi2z8 (by kernel_rfl) (by kernel_rfl) ?hr2z8 ?hQ2z8 ?hy2z8 hHeld ?r2z8
        case hi2z8 => (simp only [List.getElem?_toArray, List.getElem?_cons_zero, List.getElem?_cons_succ]; rfl)
        case hr2z8 => kernel_rfl
        case hQ2z8 => exact fun _ _ _ h => h
        case hy2z8 => (refine Or.inl ⟨by rfl, ?_⟩; intro w hSw; (try dsimp only at hSw); go_simp; try with_reducible rfl)
        try simp only [Act.put, List.setIfInBounds_toArray, List.set_cons_zero, List.set_cons_succ]
        refine wpAnyH_take (i := 3) (oi := ?o3z8) (v := ?v3z8) ?hi3z8 (by kernel_rfl) (by kernel_rfl) ?hr3z8 ?hQ3z8 ?hy3z8 hHeld ?r3z8
        case hi3z8 => (simp only [List.getElem?_toArray, List.getElem?_cons_zero, List.getElem?_cons_succ]; rfl)
        case hr3z8 => kernel_rfl
        case hQ3z8 => exact fun _ _ _ h => h
        case hy3z8 => (refine Or.inl ⟨by rfl, ?_⟩; intro w hSw; (try dsimp only at hSw); go_simp; try with_reducible rfl)
        try simp only [Act.put, List.setIfInBounds_toArray, List.set_cons_zero, List.set_cons_succ]
        refine wpAnyH_take (i := 4) (oi := ?o4z8) (v := ?v4z8) ?hi4z8 (by kernel_rfl) (by kernel_rfl) ?hr4z8 ?hQ4z8 ?hy4z8 hHeld ?r4z8
        case hi4z8 => (simp only [List.getElem?_toArray, List.getElem?_cons_zero, List.getElem?_cons_succ]; rfl)
        case hr4z8 => kernel_rfl
        case hQ4z8 => exact fun _ _ _ h => h
        case hy4z8 => (refine Or.inl ⟨by rfl, ?_⟩; intro w hSw; (try dsimp only at hSw); go_simp; try with_reducible rfl)
        try simp only [Act.put, List.setIfInBounds_toArray, List.set_cons_zero, List.set_cons_succ]
        refine wpAnyH_take (i := 5) (oi := ?o5z8) (v := ?v5z8) ?hi5z8 (by kernel_rfl) (by kernel_rfl) ?hr5z8 ?hQ5z8 ?hy5z8 hHeld ?r5z8
        case hi5z8 => (simp only [List.getElem?_toArray, List.getElem?_cons_zero, List.getElem?_cons_succ]; rfl)
        case hr5z8 => kernel_rfl
        case hQ5z8 => exact fun _ _ _ h => h
        case hy5z8 => (refine Or.inl ⟨by rfl, ?_⟩; intro w hSw; (try dsimp only at hSw); go_simp; try with_reducible rfl)
        try simp only [Act.put, List.setIfInBounds_toArray, List.set_cons_zero, List.set_cons_succ]
        refine wpAnyH_take (i := 6) (oi := ?o6z8) (v := ?v6z8) ?hi6z8 (by kernel_rfl) (by kernel_rfl) ?hr6z8 ?hQ6z8 ?hy6z8 hHeld ?r6z8
        case hi6z8 => (simp only [List.getElem?_toArray, List.getElem?_cons_zero, List.getElem?_cons_succ]; rfl)
        case hr6z8 => kernel_rfl
        case hQ6z8 => exact fun _ _ _ h => h
        case hy6z8 => (refine Or.inl ⟨by rfl, ?_⟩; intro w hSw; (try dsimp only at hSw); go_simp; try with_reducible rfl)
        try simp only [Act.put, List.setIfInBounds_toArray, List.set_cons_zero, List.set_cons_succ]
        refine wpAnyH_take (i := 7) (oi := ?o7z8) (v := ?v7z8) ?hi7z8 (by kernel_rfl) (by kernel_rfl) ?hr7z8 ?hQ7z8 ?hy7z8 hHeld ?r7z8
        case hi7z8 => (simp only [List.getElem?_toArray, List.getElem?_cons_zero, List.getElem?_cons_succ]; rfl)
        case hr7z8 => kernel_rfl
        case hQ7z8 => exact fun _ _ _ h => h
        case hy7z8 => (refine Or.inl ⟨by rfl, ?_⟩; intro w hSw; (try dsimp only at hSw); go_simp; try with_reducible rfl)
        try simp only [Act.put, List.setIfInBounds_toArray, List.set_cons_zero, List.set_cons_succ]
        refine wpAnyH_take (i := 8) (oi := ?o8z8) (v := ?v8z8) ?hi8z8 (by kernel_rfl) (by kernel_rfl) ?hr8z8 ?hQ8z8 ?hy8z8 hHeld ?r8z8
        case hi8z8 => (simp only [List.getElem?_toArray, List.getElem?_cons_zero, List.getElem?_cons_succ]; rfl)
        case hr8z8 => kernel_rfl
        case hQ8z8 => exact fun _ _ _ h => h
        case hy8z8 => (refine Or.inl ⟨by rfl, ?_⟩; intro w hSw; (try dsimp only at hSw); go_simp; try with_reducible rfl)
        try simp only [Act.put, List.setIfInBounds_toArray, List.set_cons_zero, List.set_cons_succ]
        refine wpAnyH_take (i := 9) (oi := ?o9z8) (v := ?v9z8) ?hi9z8 (by kernel_rfl) (by kernel_rfl) ?hr9z8 ?hQ9z8 ?hy9z8 hHeld ?r9z8
        case hi9z8 => (simp only [List.getElem?_toArray, List.getElem?_cons_zero, List.getElem?_cons_succ]; rfl)
        case hr9z8 => kernel_rfl
        case hQ9z8 => exact fun _ _ _ h => h
        case hy9z8 => (refine Or.inl ⟨by rfl, ?_⟩; intro w hSw; (try dsimp only at hSw); go_simp; try with_reducible rfl)
        try simp only [Act.put, List.setIfInBounds_toArray, List.set_cons_zero, List.set_cons_succ]
        refine wpAnyH_take (i := 10) (oi := ?o10z8) (v := ?v10z8) ?hi10z8 (by kernel_rfl) (by kernel_rfl) ?hr10z8 ?hQ10z8 ?hy10z8 hHeld ?r10z8
        case hi10z8 => (simp only [List.getElem?_toArray, List.getElem?_cons_zero, List.getElem?_cons_succ]; rfl)
        case hr10z8 => kernel_rfl
        case hQ10z8 => exact fun _ _ _ h => h
        case hy10z8 => (refine Or.inl ⟨by rfl, ?_⟩; intro w hSw; (try dsimp only at hSw); go_simp; try with_reducible rfl)
        try simp only [Act.put, List.setIfInBounds_toArray, List.set_cons_zero, List.set_cons_succ]
        refine wpAnyH_take (i := 11) (oi := ?o11z8) (v := ?v11z8) ?hi11z8 (by kernel_rfl) (by kernel_rfl) ?hr11z8 ?hQ11z8 ?hy11z8 hHeld ?r11z8
        case hi11z8 => (simp only [List.getElem?_toArray, List.getElem?_cons_zero, List.getElem?_cons_succ]; rfl)
        case hr11z8 => kernel_rfl
        case hQ11z8 => exact fun _ _ _ h => h
        case hy11z8 => (refine Or.inl ⟨by rfl, ?_⟩; intro w hSw; (try dsimp only at hSw); go_simp; try with_reducible rfl)
        try simp only [Act.put, List.setIfInBounds_toArray, List.set_cons_zero, List.set_cons_succ]
        refine wpAnyH_take (i := 12) (oi := ?o12z8) (v := ?v12z8) ?hi12z8 (by kernel_rfl) (by kernel_rfl) ?hr12z8 ?hQ12z8 ?hy12z8 hHeld ?r12z8
        case hi12z8 => (simp only [List.getElem?_toArray, List.getElem?_cons_zero, List.getElem?_cons_succ]; rfl)
        case hr12z8 => kernel_rfl
        case hQ12z8 => exact fun _ _ _ h => h
        case hy12z8 => (refine Or.inl ⟨by rfl, ?_⟩; intro w hSw; (try dsimp only at hSw); go_simp; try with_reducible rfl)
        try simp only [Act.put, List.setIfInBounds_toArray, List.set_cons_zero, List.set_cons_succ]
        refine wpAnyH_take (i := 13) (oi := ?o13z8) (v := ?v13z8) ?hi13z8 (by kernel_rfl) (by kernel_rfl) ?hr13z8 ?hQ13z8 ?hy13z8 hHeld ?r13z8
        case hi13z8 => (simp only [List.getElem?_toArray, List.getElem?_cons_zero, List.getElem?_cons_succ]; rfl)
        case hr13z8 => kernel_rfl
        case hQ13z8 => exact fun _ _ _ h => h
        case hy13z8 => (refine Or.inl ⟨by rfl, ?_⟩; intro w hSw; (try dsimp only at hSw); go_simp; try with_reducible rfl)
        try simp only [Act.put, List.setIfInBounds_toArray, List.set_cons_zero, List.set_cons_succ]
        refine wpAnyH_take (i := 14) (oi := ?o14z8) (v := ?v14z8) ?hi14z8 (by kernel_rfl) (by kernel_rfl) ?hr14z8 ?hQ14z8 ?hy14z8 hHeld ?r14z8
        case hi14z8 => (simp only [List.getElem?_toArray, List.getElem?_cons_zero, List.getElem?_cons_succ]; rfl)
        case hr14z8 => kernel_rfl
        case hQ14z8 => exact fun _ _ _ h => h
        case hy14z8 => (refine Or.inl ⟨by rfl, ?_⟩; intro w hSw; (try dsimp only at hSw); go_simp; try with_reducible rfl)
        try simp only [Act.put, List.setIfInBounds_toArray, List.set_cons_zero, List.set_cons_succ]
        refine wpAnyH_take (i := 15) (oi := ?o15z8) (v := ?v15z8) ?hi15z8 (by kernel_rfl) (by kernel_rfl) ?hr15z8 ?hQ15z8 ?hy15z8 hHeld ?r15z8
        case hi15z8 => (simp only [List.getElem?_toArray, List.getElem?_cons_zero, List.getElem?_cons_succ]; rfl)
        case hr15z8 => kernel_rfl
        case hQ15z8 => exact fun _ _ _ h => h
        case hy15z8 => (refine Or.inl ⟨by rfl, ?_⟩; intro w hSw; (try dsimp only at hSw); go_simp; try with_reducible rfl)
        try simp only [Act.put, List.setIfInBounds_toArray, List.set_cons_zero, List.set_cons_succ]
        refine wpAnyH_take (i := 16) (oi := ?o16z8) (v := ?v16z8) ?hi16z8 (by kernel_rfl) (by kernel_rfl) ?hr16z8 ?hQ16z8 ?hy16z8 hHeld ?r16z8
        case hi16z8 => (simp only [List.getElem?_toArray, List.getElem?_cons_zero, List.getElem?_cons_succ]; rfl)
        case hr16z8 => kernel_rfl
        case hQ16z8 => exact fun _ _ _ h => h
        case hy16z8 => (refine Or.inl ⟨by rfl, ?_⟩; intro w hSw; (try dsimp only at hSw); go_simp; try with_reducible rfl)
        try simp only [Act.put, List.setIfInBounds_toArray, List.set_cons_zero, List.set_cons_succ]
        refine wpAnyH_take (i := 17) (oi := ?o17z8) (v := ?v17z8) ?hi17z8 (by kernel_rfl) (by kernel_rfl) ?hr17z8 ?hQ17z8 ?hy17z8 hHeld ?r17z8
        case hi17z8 => (simp only [List.getElem?_toArray, List.getElem?_cons_zero, List.getElem?_cons_succ]; rfl)
        case hr17z8 => kernel_rfl
        case hQ17z8 => exact fun _ _ _ h => h
        case hy17z8 => (refine Or.inl ⟨by rfl, ?_⟩; intro w hSw; (try dsimp only at hSw); go_simp; try with_reducible rfl)
        try simp only [Act.put, List.setIfInBounds_toArray, List.set_cons_zero, List.set_cons_succ]
        refine wpAnyH_take (i := 18) (oi := ?o18z8) (v := ?v18z8) ?hi18z8 (by kernel_rfl) (by kernel_rfl) ?hr18z8 ?hQ18z8 ?hy18z8 hHeld ?r18z8
        case hi18z8 => (simp only [List.getElem?_toArray, List.getElem?_cons_zero, List.getElem?_cons_succ]; rfl)
        case hr18z8 => kernel_rfl
        case hQ18z8 => exact fun _ _ _ h => h
        case hy18z8 => (refine Or.inl ⟨by rfl, ?_⟩; intro w hSw; (try dsimp only at hSw); go_simp; try with_reducible rfl)
        try simp only [Act.put, List.setIfInBounds_toArray, List.set_cons_zero, List.set_cons_succ]
        refine wpAnyH_take (i := 19) (oi := ?o19z8) (v := ?v19z8) ?hi19z8 (by kernel_rfl) (by kernel_rfl) ?hr19z8 ?hQ19z8 ?hy19z8 hHeld ?r19z8
        case hi19z8 => (simp only [List.getElem?_toArray, List.getElem?_cons_zero, List.getElem?_cons_succ]; rfl)
        case hr19z8 => kernel_rfl
        case hQ19z8 => exact fun _ _ _ h => h
        case hy19z8 => (refine Or.inl ⟨by rfl, ?_⟩; intro w hSw; (try dsimp only at hSw); go_simp; try with_reducible rfl)
        try simp only [Act.put, List.setIfInBounds_toArray, List.set_cons_zero, List.set_cons_succ]
        refine wpAnyH_take (i := 20) (oi := ?o20z8) (v := ?v20z8) ?hi20z8 (by kernel_rfl) (by kernel_rfl) ?hr20z8 ?hQ20z8 ?hy20z8 hHeld ?r20z8
        case hi20z8 => (simp only [List.getElem?_toArray, List.getElem?_cons_zero, List.getElem?_cons_succ]; rfl)
        case hr20z8 => kernel_rfl
        case hQ20z8 => exact fun _ _ _ h => h
        case hy20z8 => (refine Or.inl ⟨by rfl, ?_⟩; intro w hSw; (try dsimp only at hSw); go_simp; try with_reducible rfl)
        try simp only [Act.put, List.setIfInBounds_toArray, List.set_cons_zero, List.set_cons_succ]
        refine wpAnyH_take (i := 21) (oi := ?o21z8) (v := ?v21z8) ?hi21z8 (by kernel_rfl) (by kernel_rfl) ?hr21z8 ?hQ21z8 ?hy21z8 hHeld ?r21z8
        case hi21z8 => (simp only [List.getElem?_toArray, List.getElem?_cons_zero, List.getElem?_cons_succ]; rfl)
        case hr21z8 => kernel_rfl
        case hQ21z8 => exact fun _ _ _ h => h
        case hy21z8 => (refine Or.inl ⟨by rfl, ?_⟩; intro w hSw; (try dsimp only at hSw); go_simp; try with_reducible rfl)
        try simp only [Act.put, List.setIfInBounds_toArray, List.set_cons_zero, List.set_cons_succ]
        refine wpAnyH_take (i := 22) (oi := ?o22z8) (v := ?v22z8) ?hi22z8 (by kernel_rfl) (by kernel_rfl) ?hr22z8 ?hQ22z8 ?hy22z8 hHeld ?r22z8
        case hi22z8 => (simp only [List.getElem?_toArray, List.getElem?_cons_zero, List.getElem?_cons_succ]; rfl)
        case hr22z8 => kernel_rfl
        case hQ22z8 => exact fun _ _ _ h => h
        case hy22z8 => (refine Or.inl ⟨by rfl, ?_⟩; intro w hSw; (try dsimp only at hSw); go_simp; try with_reducible rfl)
        try simp only [Act.put, List.setIfInBounds_toArray, List.set_cons_zero, List.set_cons_succ]
        refine wpAnyH_take (i := 23) (oi := ?o23z8) (v := ?v23z8) ?hi23z8 (by kernel_rfl) (by kernel_rfl) ?hr23z8 ?hQ23z8 ?hy23z8 hHeld ?r23z8
        case hi23z8 => (simp only [List.getElem?_toArray, List.getElem?_cons_zero, List.getElem?_cons_succ]; rfl)
        case hr23z8 => kernel_rfl
        case hQ23z8 => exact fun _ _ _ h => h
        case hy23z8 => (refine Or.inl ⟨by rfl, ?_⟩; intro w hSw; (try dsimp only at hSw); go_simp; try with_reducible rfl)
        try simp only [Act.put, List.setIfInBounds_toArray, List.set_cons_zero, List.set_cons_succ]
        refine wpAnyH_take (i := 24) (oi := ?o24z8) (v := ?v24z8) ?hi24z8 (by kernel_rfl) (by kernel_rfl) ?hr24z8 ?hQ24z8 ?hy24z8 hHeld ?r24z8
        case hi24z8 => (simp only [List.getElem?_toArray, List.getElem?_cons_zero, List.getElem?_cons_succ]; rfl)
        case hr24z8 => kernel_rfl
        case hQ24z8 => exact fun _ _ _ h => h
        case hy24z8 => (refine Or.inl ⟨by rfl, ?_⟩; intro w hSw; (try dsimp only at hSw); go_simp; try with_reducible rfl)
        try simp only [Act.put, List.setIfInBounds_toArray, List.set_cons_zero, List.set_cons_succ]
        refine wpAnyH_take (i := 25) (oi := ?o25z8) (v := ?v25z8) ?hi25z8 (by kernel_rfl) (by kernel_rfl) ?hr25z8 ?hQ25z8 ?hy25z8 hHeld ?r25z8
        case hi25z8 => (simp only [List.getElem?_toArray, List.getElem?_cons_zero, List.getElem?_cons_succ]; rfl)
        case hr25z8 => kernel_rfl
        case hQ25z8 => exact fun _ _ _ h => h
        case hy25z8 => (refine Or.inl ⟨by rfl, ?_⟩; intro w hSw; (try dsimp only at hSw); go_simp; try with_reducible rfl)
        try simp only [Act.put, List.setIfInBounds_toArray, List.set_cons_zero, List.set_cons_succ]
        refine wpAnyH_take (i := 26) (oi := ?o26z8) (v := ?v26z8) ?hi26z8 (by kernel_rfl) (by kernel_rfl) ?hr26z8 ?hQ26z8 ?hy26z8 hHeld ?r26z8
        case hi26z8 => (simp only [List.getElem?_toArray, List.getElem?_cons_zero, List.getElem?_cons_succ]; rfl)
        case hr26z8 => kernel_rfl
        case hQ26z8 => exact fun _ _ _ h => h
        case hy26z8 => (refine Or.inl ⟨by rfl, ?_⟩; intro w hSw; (try dsimp only at hSw); go_simp; try with_reducible rfl)
        try simp only [Act.put, List.setIfInBounds_toArray, List.set_cons_zero, List.set_cons_succ]
        refine wpAnyH_take (i := 27) (oi := ?o27z8) (v := ?v27z8) ?hi27z8 (by kernel_rfl) (by kernel_rfl) ?hr27z8 ?hQ27z8 ?hy27z8 hHeld ?r27z8
        case hi27z8 => (simp only [List.getElem?_toArray, List.getElem?_cons_zero, List.getElem?_cons_succ]; rfl)
        case hr27z8 => kernel_rfl
        case hQ27z8 => exact fun _ _ _ h => h
        case hy27z8 => (refine Or.inl ⟨by rfl, ?_⟩; intro w hSw; (try dsimp only at hSw); go_simp; try with_reducible rfl)
        try simp only [Act.put, List.setIfInBounds_toArray, List.set_cons_zero, List.set_cons_succ]
        refine wpAnyH_take (i := 28) (oi := ?o28z8) (v := ?v28z8) ?hi28z8 (by kernel_rfl) (by kernel_rfl) ?hr28z8 ?hQ28z8 ?hy28z8 hHeld ?r28z8
        case hi28z8 => (simp only [List.getElem?_toArray, List.getElem?_cons_zero, List.getElem?_cons_succ]; rfl)
        case hr28z8 => kernel_rfl
        case hQ28z8 => exact fun _ _ _ h => h
        case hy28z8 => (refine Or.inl ⟨by rfl, ?_⟩; intro w hSw; (try dsimp only at hSw); go_simp; try with_reducible rfl)
        try simp only [Act.put, List.setIfInBounds_toArray, List.set_cons_zero, List.set_cons_succ]
        refine wpAnyH_take (i := 29) (oi := ?o29z8) (v := ?v29z8) ?hi29z8 (by kernel_rfl) (by kernel_rfl) ?hr29z8 ?hQ29z8 ?hy29z8 hHeld ?r29z8
        case hi29z8 => (simp only [List.getElem?_toArray, List.getElem?_cons_zero, List.getElem?_cons_succ]; rfl)
        case hr29z8 => kernel_rfl
        case hQ29z8 => exact fun _ _ _ h => h
        case hy29z8 => (refine Or.inl ⟨by rfl, ?_⟩; intro w hSw; (try dsimp only at hSw); go_simp; try with_reducible rfl)
        try simp only [Act.put, List.setIfInBounds_toArray, List.set_cons_zero, List.set_cons_succ]
        refine wpAnyH_take (i := 30) (oi := ?o30z8) (v := ?v30z8) ?hi30z8 (by kernel_rfl) (by kernel_rfl) ?hr30z8 ?hQ30z8 ?hy30z8 hHeld ?r30z8
        case hi30z8 => (simp only [List.getElem?_toArray, List.getElem?_cons_zero, List.getElem?_cons_succ]; rfl)
        case hr30z8 => kernel_rfl
        case hQ30z8 => exact fun _ _ _ h => h
        case hy30z8 => (refine Or.inl ⟨by rfl, ?_⟩; intro w hSw; (try dsimp only at hSw); go_simp; try with_reducible rfl)
        try simp only [Act.put, List.setIfInBounds_toArray, List.set_cons_zero, List.set_cons_succ]
        refine wpAnyH_take (i := 31) (oi := ?o31z8) (v := ?v31z8) ?hi31z8 (by kernel_rfl) (by kernel_rfl) ?hr31z8 ?hQ31z8 ?hy31z8 hHeld ?r31z8
        case hi31z8 => (simp only [List.getElem?_toArray, List.getElem?_cons_zero, List.getElem?_cons_succ]; rfl)
        case hr31z8 => kernel_rfl
        case hQ31z8 => exact fun _ _ _ h => h
        case hy31z8 => (refine Or.inl ⟨by rfl, ?_⟩; intro w hSw; (try dsimp only at hSw); go_simp; try with_reducible rfl)
        try simp only [Act.put, List.setIfInBounds_toArray, List.set_cons_zero, List.set_cons_succ]
        refine wpAnyH_take (i := 32) (oi := ?o32z8) (v := ?v32z8) ?hi32z8 (by kernel_rfl) (by kernel_rfl) ?hr32z8 ?hQ32z8 ?hy32z8 hHeld ?r32z8
        case hi32z8 => (simp only [List.getElem?_toArray, List.getElem?_cons_zero, List.getElem?_cons_succ]; rfl)
        case hr32z8 => kernel_rfl
        case hQ32z8 => exact fun _ _ _ h => h
        case hy32z8 => (refine Or.inl ⟨by rfl, ?_⟩; intro w hSw; (try dsimp only at hSw); go_simp; try with_reducible rfl)
        try simp only [Act.put, List.setIfInBounds_toArray, List.set_cons_zero, List.set_cons_succ]
        refine wpAnyH_take (i := 33) (oi := ?o33z8) (v := ?v33z8) ?hi33z8 (by kernel_rfl) (by kernel_rfl) ?hr33z8 ?hQ33z8 ?hy33z8 hHeld ?r33z8
        case hi33z8 => (simp only [List.getElem?_toArray, List.getElem?_cons_zero, List.getElem?_cons_succ]; rfl)
        case hr33z8 => kernel_rfl
        case hQ33z8 => exact fun _ _ _ h => h
        case hy33z8 => (refine Or.inl ⟨by rfl, ?_⟩; intro w hSw; (try dsimp only at hSw); go_simp; try with_reducible rfl)
        try simp only [Act.put, List.setIfInBounds_toArray, List.set_cons_zero, List.set_cons_succ]
        refine wpAnyH_take (i := 34) (oi := ?o34z8) (v := ?v34z8) ?hi34z8 (by kernel_rfl) (by kernel_rfl) ?hr34z8 ?hQ34z8 ?hy34z8 hHeld ?r34z8
        case hi34z8 => (simp only [List.getElem?_toArray, List.getElem?_cons_zero, List.getElem?_cons_succ]; rfl)
        case hr34z8 => kernel_rfl
        case hQ34z8 => exact fun _ _ _ h => h
        case hy34z8 => (refine Or.inl ⟨by rfl, ?_⟩; intro w hSw; (try dsimp only at hSw); go_simp; try with_reducible rfl)
        try simp only [Act.put, List.setIfInBounds_toArray, List.set_cons_zero, List.set_cons_succ]
        refine wpAnyH_take (i := 35) (oi := ?o35z8) (v := ?v35z8) ?hi35z8 (by kernel_rfl) (by kernel_rfl) ?hr35z8 ?hQ35z8 ?hy35z8 hHeld ?r35z8
        case hi35z8 => (simp only [List.getElem?_toArray, List.getElem?_cons_zero, List.getElem?_cons_succ]; rfl)
        case hr35z8 => kernel_rfl
        case hQ35z8 => exact fun _ _ _ h => h
        case hy35z8 => (refine Or.inl ⟨by rfl, ?_⟩; intro w hSw; (try dsimp only at hSw); go_simp; try with_reducible rfl)
        try simp only [Act.put, List.setIfInBounds_toArray, List.set_cons_zero, List.set_cons_succ]
        refine wpAnyH_take (i := 36) (oi := ?o36z8) (v := ?v36z8) ?hi36z8 (by kernel_rfl) (by kernel_rfl) ?hr36z8 ?hQ36z8 ?hy36z8 hHeld ?r36z8
        case hi36z8 => (simp only [List.getElem?_toArray, List.getElem?_cons_zero, List.getElem?_cons_succ]; rfl)
        case hr36z8 => kernel_rfl
        case hQ36z8 => exact fun _ _ _ h => h
        case hy36z8 => (refine Or.inl ⟨by rfl, ?_⟩; intro w hSw; (try dsimp only at hSw); go_simp; try with_reducible rfl)
        try simp only [Act.put, List.setIfInBounds_toArray, List.set_cons_zero, List.set_cons_succ]
        refine wpAnyH_take (i := 37) (oi := ?o37z8) (v := ?v37z8) ?hi37z8 (by kernel_rfl) (by kernel_rfl) ?hr37z8 ?hQ37z8 ?hy37z8 hHeld ?r37z8
        case hi37z8 => (simp only [List.getElem?_toArray, List.getElem?_cons_zero, List.getElem?_cons_succ]; rfl)
        case hr37z8 => kernel_rfl
        case hQ37z8 => exact fun _ _ _ h => h
        case hy37z8 => (refine Or.inl ⟨by rfl, ?_⟩; intro w hSw; (try dsimp only at hSw); go_simp; try with_reducible rfl)
        try simp only [Act.put, List.setIfInBounds_toArray, List.set_cons_zero, List.set_cons_succ]
        refine wpAnyH_take (i := 38) (oi := ?o38z8) (v := ?v38z8) ?hi38z8 (by kernel_rfl) (by kernel_rfl) ?hr38z8 ?hQ38z8 ?hy38z8 hHeld ?r38z8
        case hi38z8 => (simp only [List.getElem?_toArray, List.getElem?_cons_zero, List.getElem?_cons_succ]; rfl)
        case hr38z8 => kernel_rfl
        case hQ38z8 => exact fun _ _ _ h => h
        case hy38z8 => (refine Or.inl ⟨by rfl, ?_⟩; intro w hSw; (try dsimp only at hSw); go_simp; try with_reducible rfl)
        try simp only [Act.put, List.setIfInBounds_toArray, List.set_cons_zero, List.set_cons_succ]
        refine wpAnyH_take (i := 39) (oi := ?o39z8) (v := ?v39z8) ?hi39z8 (by kernel_rfl) (by kernel_rfl) ?hr39z8 ?hQ39z8 ?hy39z8 hHeld ?r39z8
        case hi39z8 => (simp only [List.getElem?_toArray, List.getElem?_cons_zero, List.getElem?_cons_succ]; rfl)
        case hr39z8 => kernel_rfl
        case hQ39z8 => exact fun _ _ _ h => h
        case hy39z8 => (refine Or.inl ⟨by rfl, ?_⟩; intro w hSw; (try dsimp only at hSw); go_simp; try with_reducible rfl)
        try simp only [Act.put, List.setIfInBounds_toArray, List.set_cons_zero, List.set_cons_succ]
        refine wpAnyH_take (i := 40) (oi := ?o40z8) (v := ?v40z8) ?hi40z8 (by kernel_rfl) (by kernel_rfl) ?hr40z8 ?hQ40z8 ?hy40z8 hHeld ?r40z8
        case hi40z8 => (simp only [List.getElem?_toArray, List.getElem?_cons_zero, List.getElem?_cons_succ]; rfl)
        case hr40z8 => kernel_rfl
        case hQ40z8 => exact fun _ _ _ h => h
        case hy40z8 => (refine Or.inl ⟨by rfl, ?_⟩; intro w hSw; (try dsimp only at hSw); go_simp; try with_reducible rfl)
        try simp only [Act.put, List.setIfInBounds_toArray, List.set_cons_zero, List.set_cons_succ]
        refine wpAnyH_take (i := 41) (oi := ?o41z8) (v := ?v41z8) ?hi41z8 (by kernel_rfl) (by kernel_rfl) ?hr41z8 ?hQ41z8 ?hy41z8 hHeld ?r41z8
        case hi41z8 => (simp only [List.getElem?_toArray, List.getElem?_cons_zero, List.getElem?_cons_succ]; rfl)
        case hr41z8 => kernel_rfl
        case hQ41z8 => exact fun _ _ _ h => h
        case hy41z8 => (refine Or.inl ⟨by rfl, ?_⟩; intro w hSw; (try dsimp only at hSw); go_simp; try with_reducible rfl)
        try simp only [Act.put, List.setIfInBounds_toArray, List.set_cons_zero, List.set_cons_succ]
        refine wpAnyH_take (i := 42) (oi := ?o42z8) (v := ?v42z8) ?hi42z8 (by kernel_rfl) (by kernel_rfl) ?hr42z8 ?hQ42z8 ?hy42z8 hHeld ?r42z8
        case hi42z8 => (simp only [List.getElem?_toArray, List.getElem?_cons_zero, List.getElem?_cons_succ]; rfl)
        case hr42z8 => kernel_rfl
        case hQ42z8 => exact fun _ _ _ h => h
        case hy42z8 => (refine Or.inl ⟨by rfl, ?_⟩; intro w hSw; (try dsimp only at hSw); go_simp; try with_reducible rfl)
        try simp only [Act.put, List.setIfInBounds_toArray, List.set_cons_zero, List.set_cons_succ]
        refine wpAnyH_ready (rs := [43]) (by kernel_rfl) (by simp) (AllReadyH.cons (o := ?o43z8) ?hi43z8 (fun K hK => ?r43z8) AllReadyH.nil)
        case hi43z8 => (simp only [List.getElem?_toArray, List.getElem?_cons_zero, List.getElem?_cons_succ]; rfl)
        go_simp
        refine (many_any _ 32 32 rfl (by decide)).mono ?_
        rintro e w7 ⟨b7, A7, c7, rfl, r7⟩
        have s7 := And.intro (cell_below b7 sX.1) (And.intro (cell_below b7 sX.2.1) (cell_below b7 sX.2.2))
        have SG := SameGroup_any w7 8388608 549755813888 8388608 549755813888 Ay A7 cy c7 32 32 (manyI 32) (manyI 32) (manyI_length 32).symm (manyI_length 32).symm (by rw [manyI_length]; decide) (RY.out.below b7) r7
        rw [show decide ((8388608 : Int) = 8388608 ∧ (549755813888 : Int) = 549755813888 ∧ manyI 32 = manyI 32) = true from decide_eq_true ⟨rfl, rfl, rfl⟩] at SG
        refine hK.out _ _ (by exact s7) (fun hHeld => ?_)
        clear hK K
        try simp only [Act.put, List.setIfInBounds_toArray, List.set_cons_zero, List.set_cons_succ]
        refine wpAnyH_ready (rs := [44]) (by kernel_rfl) (by simp) (AllReadyH.cons (o := ?o44z8) ?hi44z8 (fun K hK => ?r44z8) AllReadyH.nil)
        case hi44z8 => (simp only [List.getElem?_toArray, List.getElem?_cons_zero, List.getElem?_cons_succ]; rfl)
        go_simp
        refine SG.mono ?_
        rintro e w8 ⟨rfl, b8⟩
        have s8 := And.intro (cell_below b8 s7.1) (And.intro (cell_below b8 s7.2.1) (cell_below b8 s7.2.2))
        have b78 := b7.trans (b8.mono b7.size)
        refine hK.out _ _ (by exact s8) (fun hHeld => ?_)
        clear hK K
        try simp only [Act.put, List.setIfInBounds_toArray, List.set_cons_zero, List.set_cons_succ]
        refine wpAnyH_take (i := 45) (oi := ?o45z8) (v := ?v45z8) ?hi45z8 (by kernel_rfl) (by kernel_rfl) ?hr45z8 ?hQ45z8 ?hy45z8 hHeld ?r45z8
        case hi45z8 => (simp only [List.getElem?_toArray, List.getElem?_cons_zero, List.getElem?_cons_succ]; rfl)
        case hr45z8 => kernel_rfl
        case hQ45z8 => exact fun _ _ _ h => h
        case hy45z8 => (refine Or.inl ⟨by rfl, ?_⟩; intro w hSw; (try dsimp only at hSw); go_simp; try with_reducible rfl)
        try simp only [Act.put, List.setIfInBounds_toArray, List.set_cons_zero, List.set_cons_succ]
        refine wpAnyH_take (i := 46) (oi := ?o46z8) (v := ?v46z8) ?hi46z8 (by kernel_rfl) (by kernel_rfl) ?hr46z8 ?hQ46z8 ?hy46z8 hHeld ?r46z8
        case hi46z8 => (simp only [List.getElem?_toArray, List.getElem?_cons_zero, List.getElem?_cons_succ]; rfl)
        case hr46z8 => kernel_rfl
        case hQ46z8 => exact fun _ _ _ h => h
        case hy46z8 => (refine Or.inl ⟨by rfl, ?_⟩; intro w hSw; (try dsimp only at hSw); go_simp; try with_reducible rfl)
        try simp only [Act.put, List.setIfInBounds_toArray, List.set_cons_zero, List.set_cons_succ]
        refine wpAnyH_done (by kernel_rfl) ?_ _
        have HB19 := hid (HB18.out.trans (b78.mono HB18.out.size))
        have q0 := cell_below HB19.out LS.out.1
        have q1 := cell_below HB19.out LS.out.2
        have SM := sum_any w8 g0 0 c0 1 1 oneI (by decide) hch (HH.out.below HB19.out)
        clear b7 b8 b78 s7 s8 r7 sX
        go_wp2_with fail
        refine SM.mono ?_
        rintro e v19 ⟨rfl, b19⟩
        have HB20 := hid (HB19.out.trans (b19.mono HB19.out.size))
        have q0 := cell_below HB20.out LS.out.1
        have q1 := cell_below HB20.out LS.out.2
        have S1 := Stamped_any v19 (some ⟨g1, 0, none⟩) c1 4096 oneM oneM_length.symm (by rw [oneM_length]; exact hcm) (HM.out.below HB20.out) 1 2
        rw [st12] at S1
        clear SM b19
        go_wp2_with fail
        refine S1.mono ?_
        rintro e v20 ⟨rfl, b20⟩
        have HB21 := hid (HB20.out.trans (b20.mono HB20.out.size))
        have q0 := cell_below HB21.out LS.out.1
        have q1 := cell_below HB21.out LS.out.2
        have S1 := Stamped_any v20 (some ⟨g1, 0, none⟩) c1 4096 oneM oneM_length.symm (by rw [oneM_length]; exact hcm) (HM.out.below HB21.out) 1 1
        rw [st11] at S1
        clear b20
        go_wp2_with fail
        refine S1.mono ?_
        rintro e v21 ⟨rfl, b21⟩
        have HB22 := hid (HB21.out.trans (b21.mono HB21.out.size))
        clear b21 S1 q0 q1
        have BK := Blocks_any v21 32
        rw [show (if (1 : Int) ≤ 32 ∧ (32 : Int) ≤ 32 then (32 : Int) + 1 else 0) = 33 from rfl] at BK
        go_wp2_with fail
        refine BK.mono ?_
        rintro e v22 ⟨rfl, rfl⟩
        clear BK
        have BK := Blocks_any v21 33
        rw [show (if (1 : Int) ≤ 33 ∧ (33 : Int) ≤ 32 then (33 : Int) + 1 else 0) = 0 from rfl] at BK
        go_wp2_with fail
        refine BK.mono ?_
        rintro e v22 ⟨rfl, rfl⟩
        clear BK
        have BK := Blocks_any v21 0
        rw [show (if (1 : Int) ≤ 0 ∧ (0 : Int) ≤ 32 then (0 : Int) + 1 else 0) = 0 from rfl] at BK
        go_wp2_with fail
        refine BK.mono ?_
        rintro e v22 ⟨rfl, rfl⟩
        clear BK
        go_wp2_with fail
        refine (awake06_any v21).mono ?_
        rintro e v23 ⟨rfl, b23⟩
        have hf := HB22.out.trans (b23.mono HB22.out.size)
        have HF := hid (HW.out.trans (hf.mono HW.out.size))
        clear hf b23
        go_wp2
        go_ret
        exact ⟨rfl, HF.out⟩
end Go.Proofs.Ytknhfaplddgnlaa
