/- Made, many (printed by gen06t.py). -/
import Derived.Test.YtknhfaplddgnlaaRecAB
namespace Go.Proofs.Ytknhfaplddgnlaa
open Go.RowKit
set_option maxHeartbeats 3200000
set_option maxRecDepth 100000
set_option linter.unusedVariables false
set_option linter.unusedSimpArgs false

/-- The number behind k steps. -/
def mX (s : Int) : Nat → Int
  | 0 => IntKind.u64.wrap (IntKind.u64.wrap (IntKind.u64.wrap s * 2862933555777941757) + 3037000493)
  | k + 1 => if k % 8 = 0 then IntKind.u64.wrap (IntKind.u64.wrap (mX s k * 2862933555777941757) + 3037000493) else mX s k
def mB (s : Int) (k : Nat) : UInt8 := UInt8.ofNat (mX s (k + 1) / 1099511627776 % 256).toNat
def madeB (s : Int) (n : Nat) : List UInt8 := (List.range n).map (mB s)
theorem madeB_length (s : Int) (n : Nat) : (madeB s n).length = n := by simp [madeB]
theorem mB_wrap (s : Int) (k : Nat) : mX s (k + 1) / 1099511627776 % 256 = ((mB s k).toNat : Int) := by
  unfold mB
  generalize mX s (k + 1) / 1099511627776 = x
  have h2 : (x % 256).toNat < 256 := by omega
  rw [UInt8.toNat_ofNat_of_lt' h2]
  omega
theorem Made_any (w : World) (s : Int) (n : Nat) (hn : n ≤ 100000) :
    Calls Try.prog 39 #[.int .i64 s, .int .i64 (n : Int)] w fun e w' => ∃ g, e = .returned (.slice (some ⟨g, 0, none⟩) n n) ∧ OwnB w.heap.size w' (some ⟨g, 0, none⟩) n (madeB s n) ∧ Below w.heap.size w w' := by
  have hmk := fun W => run_mkB n (n : Int) (n : Int) rfl rfl (by omega) W
  go_enter Try.func39, Try.ntmps39
  go_wp2_with fail
  go_loopw [6, 7] (fun x i wr => ∃ k : Nat, k ≤ n ∧ i = .int .i64 k ∧ x = .int .u64 (mX s k) ∧ OwnB w.heap.size wr (some ⟨w.heap.size, 0, none⟩) n (madeB s k ++ zeros (n - k)) ∧ Below w.heap.size w wr) (fun _ i _ => n - (intOf i).toNat)
  case atStart => exact ⟨0, by omega, rfl, rfl, OwnB.made w n (Nat.le_refl _) (by omega), (Below.refl _ w).alloc (Nat.le_refl _) _⟩
  case round =>
    obtain ⟨k, hk, rfl, rfl, ho, hb⟩ := hrel
    have hl : (madeB s k ++ zeros (n - k)).length = n := by simp [zeros, madeB_length]; omega
    by_cases hlt : k < n
    · have fz := ho.free k
      obtain ⟨g', e, _, hc, _⟩ := ho.at_ (by intro e; rw [e] at hl; simp at hl; omega)
      simp only [Option.some.injEq, Addr.mk.injEq, and_true] at e
      subst e
      have c0 := hc k (by rw [hl]; exact hlt)
      clear hc
      have st := ho.store k (mB s k)
      have e1 : (madeB s k ++ zeros (n - k)).set k (mB s k) = madeB s (k + 1) ++ zeros (n - (k + 1)) := by
        rw [List.set_append_right _ _ (by rw [madeB_length]; exact Nat.le_refl _), madeB_length, Nat.sub_self, show n - k = (n - (k + 1)) + 1 by omega]
        simp [zeros, List.replicate_succ, madeB, List.range_succ]
      rw [e1] at st
      have ST := hid st; have HW := hid (mB_wrap s k)
      have hmx : mX s (k + 1) = if k % 8 = 0 then IntKind.u64.wrap (IntKind.u64.wrap (mX s k * 2862933555777941757) + 3037000493) else mX s k := rfl
      by_cases h8 : k % 8 = 0
      · rw [if_pos h8] at hmx
        have HX := hid hmx
        have hd : (Int.tmod (k : Int) 8 == 0) = true := by
          rw [Int.tmod_eq_emod_of_nonneg (by omega)]; simp; omega
        clear st hl e1 ho hmx
        go_wp2_with fail
        rw [← HX.out, HW.out]
        exact ⟨⟨k + 1, by omega, by go_num, rfl, ST.out, hb.setCell (p := ⟨w.heap.size, k, none⟩) (Nat.le_refl _) _⟩, by simp [intOf]; omega⟩
      · rw [if_neg h8] at hmx
        have HX := hid hmx
        have hd : (Int.tmod (k : Int) 8 == 0) = false := by
          rw [Int.tmod_eq_emod_of_nonneg (by omega)]; simp; omega
        clear st hl e1 ho hmx
        go_wp2_with fail
        rw [← HX.out, HW.out]
        exact ⟨⟨k + 1, by omega, by go_num, rfl, ST.out, hb.setCell (p := ⟨w.heap.size, k, none⟩) (Nat.le_refl _) _⟩, by simp [intOf]; omega⟩
    · obtain rfl : k = n := by omega
      go_wp2
      go_ret
      exact ⟨w.heap.size, rfl, by simpa [zeros] using ho, hb⟩
def nsM (k : Nat) : List Int := (List.range k).map fun i : Nat => 511 - (i : Int)
def lsM (k : Nat) : List (List UInt8) := (List.range k).map fun i : Nat => madeB (i : Int) 4096
def manyI (k : Nat) : List Img := (List.range k).map fun i : Nat => (511 - (i : Int), madeB (i : Int) 4096)
theorem nsM_length (k : Nat) : (nsM k).length = k := by simp [nsM]
theorem nsM_succ (k : Nat) : nsM (k + 1) = nsM k ++ [511 - (k : Int)] := by simp [nsM, List.range_succ]
theorem lsM_succ (k : Nat) : lsM (k + 1) = lsM k ++ [madeB (k : Int) 4096] := by simp [lsM, List.range_succ]
theorem zipM (k : Nat) : (nsM k).zip (lsM k) = manyI k := by simp [nsM, lsM, manyI, List.zip_map']
theorem manyI_length (k : Nat) : (manyI k).length = k := by simp [manyI]
theorem OwIm.snoc {base : Nat} {W W1 : World} {A A1 : Option Addr} {c c1 n : Nat} {ns : List Int} {gs : List (Nat × Nat)} {ls : List (List UInt8)} (h : OwIm base W A c ns gs ls) (k : Kpt (fun b => blkOf A b) W W1) {x : Int} {g cg : Nat} {l : List UInt8}
    (hrow : W1.ownsRow base 38 2 (.slice A1 (n + 1) c1) (n + 1) (imC ns (vals gs) ++ [.int .i64 x, .slice (some ⟨g, 0, none⟩) 4096 cg])) (hn : n = ns.length) (ho : OwnB base W (some ⟨g, 0, none⟩) cg l) (hl : l.length = 4096) (hg : g ∉ gs.map (·.1)) :
    OwIm base W1 A1 c1 (ns ++ [x]) (gs ++ [(g, cg)]) (ls ++ [l]) := by
  have nT : ∀ {cs : Array Value} {t : TypeId} {b : Nat}, W.heap[b]? = some (.cells cs t (0, 0)) → t ≠ 38 → ¬ blkOf A b := fun hc ht hb => ht (row_no h.row (own_img h.row hb) hc)
  refine ⟨?_, ?_, by simp [h.len]⟩
  · rw [vals_snoc, imC_snoc _ _ _ _ (by rw [vals_length]; exact h.len), List.length_append, List.length_singleton, ← hn]
    exact hrow
  · refine (h.blk.kpt k (fun q hq => ?_)).snoc (ho.kpt k ?_) hl hg
    · obtain ⟨cs, hc⟩ := h.blk.u8 hq
      exact nT hc (by decide)
    · obtain ⟨cur, hc, _⟩ := ho.row
      exact nT hc (by decide)
def MInv (w : World) (k : Nat) (wr : World) : Prop :=
  ∃ oa oc gs, wr.heap[w.heap.size + 1]? = some (.cells #[.int .i64 8388608, .int .i64 549755813888, .slice oa k oc] 28 (0, 0)) ∧ wr.heap[w.heap.size]? = some (.cells #[.int .i64 0, .int .i64 0, .slice none 0 0] 28 (0, 0)) ∧
    OwIm (w.heap.size + 2) wr oa oc (nsM k) gs (lsM k) ∧ Below w.heap.size w wr
theorem many_any (w : World) (n : Nat) (x : Int) (hx : x = (n : Int)) (hn : n ≤ 33) :
    Calls Try.prog 12 #[.int .i64 x] w fun e w' => Below w.heap.size w w' ∧ ∃ A c, e = .returned (.agg #[.int .i64 8388608, .int .i64 549755813888, .slice A n c]) ∧ RdG w' A (manyI n) := by
  subst hx
  have hb0 : Below w.heap.size w ((w.alloc (.cells #[.int .i64 0, .int .i64 0, .slice none 0 0] 28)).alloc (.cells #[.int .i64 8388608, .int .i64 549755813888, .slice none 0 0] 28)) := ((Below.refl _ _).alloc (Nat.le_refl _) _).alloc (by simp) _
  have hrA : ((w.alloc (.cells #[.int .i64 0, .int .i64 0, .slice none 0 0] 28)).alloc (.cells #[.int .i64 8388608, .int .i64 549755813888, .slice none 0 0] 28)).heap[w.heap.size]? = some (.cells #[.int .i64 0, .int .i64 0, .slice none 0 0] 28 (0, 0)) := (Below.heap_alloc _ _ _ (by simp)).trans (heap_alloc_new w _)
  have hrB : ((w.alloc (.cells #[.int .i64 0, .int .i64 0, .slice none 0 0] 28)).alloc (.cells #[.int .i64 8388608, .int .i64 549755813888, .slice none 0 0] 28)).heap[w.heap.size + 1]? = some (.cells #[.int .i64 8388608, .int .i64 549755813888, .slice none 0 0] 28 (0, 0)) := by
    have := heap_alloc_new (w.alloc (.cells #[.int .i64 0, .int .i64 0, .slice none 0 0] 28)) (.cells #[.int .i64 8388608, .int .i64 549755813888, .slice none 0 0] 28)
    simpa using this
  have HB0 := hid hb0; have HRA := hid hrA; have HRB := hid hrB
  clear hb0 hrA hrB
  go_enter Try.func12, Try.ntmps12
  go_wp2_with fail
  go_loopw [4] (fun i wr => ∃ k : Nat, k ≤ n ∧ i = .int .i64 ((k : Nat) : Int) ∧ MInv w k wr) (fun i _ => n - (intOf i).toNat)
  case atStart => exact ⟨0, Nat.zero_le _, rfl, none, 0, [], HRB.out, HRA.out, ⟨World.ownsRow_nil _ _ _ _, Blk.nil _ _, rfl⟩, HB0.out⟩
  case round => as_aux_lemma =>
    obtain ⟨k, hk, rfl, oa, oc, gs, hF, hG, him, hb⟩ := hrel
    obtain ⟨B, hBe⟩ : ∃ B, B = w.heap.size + 2 := ⟨_, rfl⟩
    have HBE := hid hBe
    by_cases hlt : k < n
    · rw [← hBe] at him
      have MD := Made_any wr.drew (k : Int) 4096 (by decide)
      rw [show ((4096 : Nat) : Int) = 4096 from rfl] at MD
      have hFl := heap_in hF
      have hwr : IntKind.i64.wrap (511 - (k : Int)) = 511 - (k : Int) := IntWalk.i64_in _ (by omega)
      have hzw : B ≤ wr.drew.heap.size := by
        have : wr.drew.heap.size = wr.heap.size := rfl
        omega
      have x2 : wr.drew.cell? ⟨w.heap.size + 1, 2, none⟩ = some (.slice oa k oc) := (cells3 hF).2.2
      have q1 : wr.drew.ownsRow B 38 2 (.slice oa k oc) k (imC (nsM k) (vals gs)) := by
        have := him.row
        rw [nsM_length] at this
        exact this
      have hd : Below w.heap.size w wr.drew := below_drw hb
      have hFA : ∀ w4 : World, Below wr.drew.heap.size wr.drew w4 → ∀ g, (w4.alloc (.cells #[.int .i64 (511 - (k : Int)), .slice (some ⟨g, 0, none⟩) 4096 4096] 38)).heap[w.heap.size + 1]? = some (.cells #[.int .i64 8388608, .int .i64 549755813888, .slice oa k oc] 28 (0, 0)) := by
        intro w4 b4 g
        have h4 := (b4.block _ hFl).trans hF
        exact (Below.heap_alloc _ _ _ (heap_in h4)).trans h4
      have hNF : ¬ blkOf oa (w.heap.size + 1) := fun h => by have := own_base q1 _ (own_img q1 h); omega
      have FIN : ∀ (w4 : World) (g : Nat), OwnB wr.drew.heap.size w4 (some ⟨g, 0, none⟩) 4096 (madeB (k : Int) 4096) → Below wr.drew.heap.size wr.drew w4 → ∀ A1 c1 (w8 : World), w8.ownsRow B 38 2 (.slice A1 (k + 1) c1) (k + 1) (imC (nsM k) (vals gs) ++ [.int .i64 (511 - (k : Int)), .slice (some ⟨g, 0, none⟩) 4096 4096]) →
          Kpt (fun b => blkOf oa b) (w4.alloc (.cells #[.int .i64 (511 - (k : Int)), .slice (some ⟨g, 0, none⟩) 4096 4096] 38)) w8 → MInv w (k + 1) (w8.setCell ⟨w.heap.size + 1, 2, none⟩ (.slice A1 (k + 1) c1)) := by
        intro w4 g ho4 b4 A1 c1 w8 h8 K8
        have ba : Below w4.heap.size w4 (w4.alloc (.cells #[.int .i64 (511 - (k : Int)), .slice (some ⟨g, 0, none⟩) 4096 4096] 38)) := (Below.refl _ _).alloc (Nat.le_refl _) _
        have hd2 : Below wr.heap.size wr wr.drew := below_drw (Below.refl _ _)
        have i4 := ((him.below hd2).below b4).below ba
        have o4 := (ho4.below ba).mono hzw
        have hgn : g ∉ gs.map (·.1) := by
          intro h
          obtain ⟨q, hq, e⟩ := List.mem_map.1 h
          have h1 := ((him.below hd2).blk.lt hq).2
          have h2 := ho4.lt.1
          omega
        have i8 := i4.snoc K8 h8 (by rw [nsM_length]) o4 (madeB_length _ _) hgn
        have hF8 := K8.row (hFA w4 b4 g) hNF
        have hG8 := K8.row ((Below.heap_alloc _ _ _ (by have := heap_in hG; have := b4.size; have := hd2.size; omega)).trans ((b4.block _ (heap_in hG)).trans hG)) (fun h => by have := own_base q1 _ (own_img q1 h); omega)
        have K9 : Kpt (fun b => b = w.heap.size + 1) w8 (w8.setCell ⟨w.heap.size + 1, 2, none⟩ (.slice A1 (k + 1) c1)) := (Kpt.refl (fun b => b = w.heap.size + 1) w8).stc rfl _
        refine ⟨A1, c1, gs ++ [(g, 4096)], ?_, K9.row hG8 (by omega), ?_, ?_⟩
        · exact heap_setCell_same _ _ 2 _ _ _ hF8
        · rw [← hBe, nsM_succ, lsM_succ]
          refine i8.kpt K9 (fun b hb e => ?_) (fun p hp e => ?_)
          · have := own_base i8.row b (own_img i8.row hb)
            omega
          · have := (i8.blk.lt hp).1
            omega
        · refine belowK (belowK ((hd.trans (b4.mono hd.size)).trans (ba.mono (hd.trans (b4.mono hd.size)).size)) K8 (fun b hb => ?_) ((hd.trans (b4.mono hd.size)).trans (ba.mono (hd.trans (b4.mono hd.size)).size)).size) K9 (fun b hb => by omega) ?_
          · have := own_base q1 b (own_img q1 hb)
            omega
          · have h1 := ((hd.trans (b4.mono hd.size)).trans (ba.mono (hd.trans (b4.mono hd.size)).size)).size
            have h2 := K8.size
            omega
      have HFIN := hid FIN; have HFA := hid hFA; have HNF := hid hNF
      clear FIN hFA hNF hF hG him hb hFl hd hBe
      go_wp2_with fail
      refine wp_region_held_drew (S := fun _ => True) (by kernel_rfl) (by trivial) (fun hHeld => ?_)
      refine wpAnyH_take (i := 0) (oi := ?o0z1) (v := ?v0z1) ?hi0z1 (by kernel_rfl) (by kernel_rfl) ?hr0z1 ?hQ0z1 ?hy0z1 hHeld ?r0z1
      case hi0z1 => (simp only [List.getElem?_toArray, List.getElem?_cons_zero, List.getElem?_cons_succ]; rfl)
      case hr0z1 => kernel_rfl
      case hQ0z1 => exact fun _ _ _ h => h
      case hy0z1 => (refine Or.inl ⟨by rfl, ?_⟩; intro w hSw; (try dsimp only at hSw); go_simp; try with_reducible rfl)
      try simp only [Act.put, List.setIfInBounds_toArray, List.set_cons_zero, List.set_cons_succ]
      refine wpAnyH_take (i := 2) (oi := ?o2z1) (v := ?v2z1) ?hi2z1 (by kernel_rfl) (by kernel_rfl) ?hr2z1 ?hQ2z1 ?hy2z1 hHeld ?r2z1
      case hi2z1 => (simp only [List.getElem?_toArray, List.getElem?_cons_zero, List.getElem?_cons_succ]; rfl)
      case hr2z1 => kernel_rfl
      case hQ2z1 => exact fun _ _ _ h => h
      case hy2z1 => (refine Or.inl ⟨by rfl, ?_⟩; intro w hSw; (try dsimp only at hSw); go_simp; try with_reducible rfl)
      try simp only [Act.put, List.setIfInBounds_toArray, List.set_cons_zero, List.set_cons_succ]
      refine wpAnyH_take (i := 3) (oi := ?o3z1) (v := ?v3z1) ?hi3z1 (by kernel_rfl) (by kernel_rfl) ?hr3z1 ?hQ3z1 ?hy3z1 hHeld ?r3z1
      case hi3z1 => (simp only [List.getElem?_toArray, List.getElem?_cons_zero, List.getElem?_cons_succ]; rfl)
      case hr3z1 => kernel_rfl
      case hQ3z1 => exact fun _ _ _ h => h
      case hy3z1 => (refine Or.inl ⟨by rfl, ?_⟩; intro w hSw; (try dsimp only at hSw); go_simp; try with_reducible rfl)
      try simp only [Act.put, List.setIfInBounds_toArray, List.set_cons_zero, List.set_cons_succ]
      refine wpAnyH_take (i := 4) (oi := ?o4z1) (v := ?v4z1) ?hi4z1 (by kernel_rfl) (by kernel_rfl) ?hr4z1 ?hQ4z1 ?hy4z1 hHeld ?r4z1
      case hi4z1 => (simp only [List.getElem?_toArray, List.getElem?_cons_zero, List.getElem?_cons_succ]; rfl)
      case hr4z1 => kernel_rfl
      case hQ4z1 => exact fun _ _ _ h => h
      case hy4z1 => (refine Or.inl ⟨by rfl, ?_⟩; intro w hSw; (try dsimp only at hSw); go_simp; try with_reducible rfl)
      try simp only [Act.put, List.setIfInBounds_toArray, List.set_cons_zero, List.set_cons_succ]
      refine wpAnyH_ready (rs := [1, 5]) (by kernel_rfl) (by simp) (AllReadyH.cons (o := ?p1y10) ?gi1y10 (fun K hK => ?q1y10) (AllReadyH.cons (o := ?p5y10) ?gj5y10 (fun K hK => ?q5y10) AllReadyH.nil))
      case gi1y10 => (simp only [List.getElem?_toArray, List.getElem?_cons_zero, List.getElem?_cons_succ]; rfl)
      case gj5y10 => (simp only [List.getElem?_toArray, List.getElem?_cons_zero, List.getElem?_cons_succ]; rfl)
      case q1y10 =>
        go_simp
        refine hK.out _ _ (by trivial) (fun hHeld => ?_)
        clear hK K
        try simp only [Act.put, List.setIfInBounds_toArray, List.set_cons_zero, List.set_cons_succ]
        refine wpAnyH_ready (rs := [5]) (by kernel_rfl) (by simp) (AllReadyH.cons (o := ?o5z2) ?hi5z2 (fun K hK => ?r5z2) AllReadyH.nil)
        case hi5z2 => (simp only [List.getElem?_toArray, List.getElem?_cons_zero, List.getElem?_cons_succ]; rfl)
        go_simp
        refine MD.mono ?_
        rintro e w4 ⟨g, rfl, ho4, b4⟩
        have f4 := cell_below b4 x2
        have ba : Below w4.heap.size w4 (w4.alloc (.cells #[.int .i64 (511 - (k : Int)), .slice (some ⟨g, 0, none⟩) 4096 4096] 38)) := (Below.refl _ _).alloc (Nat.le_refl _) _
        have f4a := cell_below ba f4
        have O4 := hid (own_below (own_below q1 b4) ba)
        have hz4 : B ≤ (w4.alloc (.cells #[.int .i64 (511 - (k : Int)), .slice (some ⟨g, 0, none⟩) 4096 4096] 38)).heap.size := Nat.le_trans (Nat.le_trans hzw b4.size) ba.size
        have R5 : RdV (w4.alloc (.cells #[.int .i64 (511 - (k : Int)), .slice (some ⟨g, 0, none⟩) 4096 4096] 38)) (some ⟨w4.heap.size, 0, none⟩) [.int .i64 (511 - (k : Int)), .slice (some ⟨g, 0, none⟩) 4096 4096] := RdV.new w4 #[.int .i64 (511 - (k : Int)), .slice (some ⟨g, 0, none⟩) 4096 4096] 38
        refine hK.out _ _ (by trivial) (fun hHeld => ?_)
        clear hK K
        try simp only [Act.put, List.setIfInBounds_toArray, List.set_cons_zero, List.set_cons_succ]
        refine wpAnyH_take (i := 6) (oi := ?o6z2) (v := ?v6z2) ?hi6z2 (by kernel_rfl) (by kernel_rfl) ?hr6z2 ?hQ6z2 ?hy6z2 hHeld ?r6z2
        case hi6z2 => (simp only [List.getElem?_toArray, List.getElem?_cons_zero, List.getElem?_cons_succ]; rfl)
        case hr6z2 => kernel_rfl
        case hQ6z2 => exact fun _ _ _ h => h
        case hy6z2 => (refine Or.inl ⟨by rfl, ?_⟩; intro w hSw; (try dsimp only at hSw); go_simp; try with_reducible rfl)
        try simp only [Act.put, List.setIfInBounds_toArray, List.set_cons_zero, List.set_cons_succ]
        refine wpAnyH_ready (rs := [7]) (by kernel_rfl) (by simp) (AllReadyH.cons (o := ?o7z2) ?hi7z2 (fun K hK => ?r7z2) AllReadyH.nil)
        case hi7z2 => (simp only [List.getElem?_toArray, List.getElem?_cons_zero, List.getElem?_cons_succ]; rfl)
        go_simp
        refine hK.out _ _ (by trivial) (fun hHeld => ?_)
        clear hK K
        try simp only [Act.put, List.setIfInBounds_toArray, List.set_cons_zero, List.set_cons_succ]
        refine wpAnyH_ready (rs := [8]) (by kernel_rfl) (by simp) (AllReadyH.cons (o := ?o8z3) ?hi8z3 (fun K hK => ?r8z3) AllReadyH.nil)
        case hi8z3 => (simp only [List.getElem?_toArray, List.getElem?_cons_zero, List.getElem?_cons_succ]; rfl)
        refine step_own rfl (.tmp 12) (.tmp 18) 26 38 (.agg #[.int .i64 0, .slice none 0 0]) 2 32 rfl Try.underlying26 info_I rfl (by decide) (by decide) B oa oc k (imC (nsM k) (vals gs)) rfl O4.out (some ⟨w4.heap.size, 0, none⟩) 1 1 [.int .i64 (511 - (k : Int)), .slice (some ⟨g, 0, none⟩) 4096 4096] rfl rfl R5 (by simp [Value.oneCell']) (by omega) hz4 ?_
        intro A1 c1 w8 h8 K8 hA8
        have hF8 := K8.row (HFA.out w4 b4 g) HNF.out
        have fF8 := frozen_of_row _ (w.heap.size + 1) 2 _ _ hF8
        have cF8 := (cells3 hF8).2.2
        refine hK.out _ _ (by trivial) (fun hHeld => ?_)
        clear hK K
        try simp only [Act.put, List.setIfInBounds_toArray, List.set_cons_zero, List.set_cons_succ]
        refine wpAnyH_take (i := 9) (oi := ?o9z3) (v := ?v9z3) ?hi9z3 (by kernel_rfl) (by kernel_rfl) ?hr9z3 ?hQ9z3 ?hy9z3 hHeld ?r9z3
        case hi9z3 => (simp only [List.getElem?_toArray, List.getElem?_cons_zero, List.getElem?_cons_succ]; rfl)
        case hr9z3 => kernel_rfl
        case hQ9z3 => exact fun _ _ _ h => h
        case hy9z3 => (refine Or.inl ⟨by rfl, ?_⟩; intro w hSw; (try dsimp only at hSw); go_simp; try with_reducible rfl)
        try simp only [Act.put, List.setIfInBounds_toArray, List.set_cons_zero, List.set_cons_succ]
        refine wpAnyH_ready (rs := [10]) (by kernel_rfl) (by simp) (AllReadyH.cons (o := ?o10z3) ?hi10z3 (fun K hK => ?r10z3) AllReadyH.nil)
        case hi10z3 => (simp only [List.getElem?_toArray, List.getElem?_cons_zero, List.getElem?_cons_succ]; rfl)
        go_simp
        refine hK.out _ _ (by trivial) (fun hHeld => ?_)
        clear hK K
        try simp only [Act.put, List.setIfInBounds_toArray, List.set_cons_zero, List.set_cons_succ]
        refine wpAnyH_done (by kernel_rfl) ?_ _
        clear hF8
        go_wp2_with fail
        go_roundw
        case rel => exact ⟨k + 1, by omega, by go_num, HFIN.out w4 g ho4 b4 A1 c1 w8 h8 K8⟩
        case measure => simp [intOf]; omega
      case q5y10 =>
        go_simp
        refine MD.mono ?_
        rintro e w4 ⟨g, rfl, ho4, b4⟩
        have f4 := cell_below b4 x2
        have ba : Below w4.heap.size w4 (w4.alloc (.cells #[.int .i64 (511 - (k : Int)), .slice (some ⟨g, 0, none⟩) 4096 4096] 38)) := (Below.refl _ _).alloc (Nat.le_refl _) _
        have f4a := cell_below ba f4
        have O4 := hid (own_below (own_below q1 b4) ba)
        have hz4 : B ≤ (w4.alloc (.cells #[.int .i64 (511 - (k : Int)), .slice (some ⟨g, 0, none⟩) 4096 4096] 38)).heap.size := Nat.le_trans (Nat.le_trans hzw b4.size) ba.size
        have R5 : RdV (w4.alloc (.cells #[.int .i64 (511 - (k : Int)), .slice (some ⟨g, 0, none⟩) 4096 4096] 38)) (some ⟨w4.heap.size, 0, none⟩) [.int .i64 (511 - (k : Int)), .slice (some ⟨g, 0, none⟩) 4096 4096] := RdV.new w4 #[.int .i64 (511 - (k : Int)), .slice (some ⟨g, 0, none⟩) 4096 4096] 38
        refine hK.out _ _ (by trivial) (fun hHeld => ?_)
        clear hK K
        try simp only [Act.put, List.setIfInBounds_toArray, List.set_cons_zero, List.set_cons_succ]
        refine wpAnyH_take (i := 6) (oi := ?o6z4) (v := ?v6z4) ?hi6z4 (by kernel_rfl) (by kernel_rfl) ?hr6z4 ?hQ6z4 ?hy6z4 hHeld ?r6z4
        case hi6z4 => (simp only [List.getElem?_toArray, List.getElem?_cons_zero, List.getElem?_cons_succ]; rfl)
        case hr6z4 => kernel_rfl
        case hQ6z4 => exact fun _ _ _ h => h
        case hy6z4 => (refine Or.inl ⟨by rfl, ?_⟩; intro w hSw; (try dsimp only at hSw); go_simp; try with_reducible rfl)
        try simp only [Act.put, List.setIfInBounds_toArray, List.set_cons_zero, List.set_cons_succ]
        refine wpAnyH_ready (rs := [1, 7]) (by kernel_rfl) (by simp) (AllReadyH.cons (o := ?p1y9) ?gi1y9 (fun K hK => ?q1y9) (AllReadyH.cons (o := ?p7y9) ?gj7y9 (fun K hK => ?q7y9) AllReadyH.nil))
        case gi1y9 => (simp only [List.getElem?_toArray, List.getElem?_cons_zero, List.getElem?_cons_succ]; rfl)
        case gj7y9 => (simp only [List.getElem?_toArray, List.getElem?_cons_zero, List.getElem?_cons_succ]; rfl)
        case q1y9 =>
          go_simp
          refine hK.out _ _ (by trivial) (fun hHeld => ?_)
          clear hK K
          try simp only [Act.put, List.setIfInBounds_toArray, List.set_cons_zero, List.set_cons_succ]
          refine wpAnyH_ready (rs := [7]) (by kernel_rfl) (by simp) (AllReadyH.cons (o := ?o7z5) ?hi7z5 (fun K hK => ?r7z5) AllReadyH.nil)
          case hi7z5 => (simp only [List.getElem?_toArray, List.getElem?_cons_zero, List.getElem?_cons_succ]; rfl)
          go_simp
          refine hK.out _ _ (by trivial) (fun hHeld => ?_)
          clear hK K
          try simp only [Act.put, List.setIfInBounds_toArray, List.set_cons_zero, List.set_cons_succ]
          refine wpAnyH_ready (rs := [8]) (by kernel_rfl) (by simp) (AllReadyH.cons (o := ?o8z6) ?hi8z6 (fun K hK => ?r8z6) AllReadyH.nil)
          case hi8z6 => (simp only [List.getElem?_toArray, List.getElem?_cons_zero, List.getElem?_cons_succ]; rfl)
          refine step_own rfl (.tmp 12) (.tmp 18) 26 38 (.agg #[.int .i64 0, .slice none 0 0]) 2 32 rfl Try.underlying26 info_I rfl (by decide) (by decide) B oa oc k (imC (nsM k) (vals gs)) rfl O4.out (some ⟨w4.heap.size, 0, none⟩) 1 1 [.int .i64 (511 - (k : Int)), .slice (some ⟨g, 0, none⟩) 4096 4096] rfl rfl R5 (by simp [Value.oneCell']) (by omega) hz4 ?_
          intro A1 c1 w8 h8 K8 hA8
          have hF8 := K8.row (HFA.out w4 b4 g) HNF.out
          have fF8 := frozen_of_row _ (w.heap.size + 1) 2 _ _ hF8
          have cF8 := (cells3 hF8).2.2
          refine hK.out _ _ (by trivial) (fun hHeld => ?_)
          clear hK K
          try simp only [Act.put, List.setIfInBounds_toArray, List.set_cons_zero, List.set_cons_succ]
          refine wpAnyH_take (i := 9) (oi := ?o9z6) (v := ?v9z6) ?hi9z6 (by kernel_rfl) (by kernel_rfl) ?hr9z6 ?hQ9z6 ?hy9z6 hHeld ?r9z6
          case hi9z6 => (simp only [List.getElem?_toArray, List.getElem?_cons_zero, List.getElem?_cons_succ]; rfl)
          case hr9z6 => kernel_rfl
          case hQ9z6 => exact fun _ _ _ h => h
          case hy9z6 => (refine Or.inl ⟨by rfl, ?_⟩; intro w hSw; (try dsimp only at hSw); go_simp; try with_reducible rfl)
          try simp only [Act.put, List.setIfInBounds_toArray, List.set_cons_zero, List.set_cons_succ]
          refine wpAnyH_ready (rs := [10]) (by kernel_rfl) (by simp) (AllReadyH.cons (o := ?o10z6) ?hi10z6 (fun K hK => ?r10z6) AllReadyH.nil)
          case hi10z6 => (simp only [List.getElem?_toArray, List.getElem?_cons_zero, List.getElem?_cons_succ]; rfl)
          go_simp
          refine hK.out _ _ (by trivial) (fun hHeld => ?_)
          clear hK K
          try simp only [Act.put, List.setIfInBounds_toArray, List.set_cons_zero, List.set_cons_succ]
          refine wpAnyH_done (by kernel_rfl) ?_ _
          clear hF8
          go_wp2_with fail
          go_roundw
          case rel => exact ⟨k + 1, by omega, by go_num, HFIN.out w4 g ho4 b4 A1 c1 w8 h8 K8⟩
          case measure => simp [intOf]; omega
        case q7y9 =>
          go_simp
          refine hK.out _ _ (by trivial) (fun hHeld => ?_)
          clear hK K
          try simp only [Act.put, List.setIfInBounds_toArray, List.set_cons_zero, List.set_cons_succ]
          refine wpAnyH_ready (rs := [1]) (by kernel_rfl) (by simp) (AllReadyH.cons (o := ?o1z7) ?hi1z7 (fun K hK => ?r1z7) AllReadyH.nil)
          case hi1z7 => (simp only [List.getElem?_toArray, List.getElem?_cons_zero, List.getElem?_cons_succ]; rfl)
          go_simp
          refine hK.out _ _ (by trivial) (fun hHeld => ?_)
          clear hK K
          try simp only [Act.put, List.setIfInBounds_toArray, List.set_cons_zero, List.set_cons_succ]
          refine wpAnyH_ready (rs := [8]) (by kernel_rfl) (by simp) (AllReadyH.cons (o := ?o8z8) ?hi8z8 (fun K hK => ?r8z8) AllReadyH.nil)
          case hi8z8 => (simp only [List.getElem?_toArray, List.getElem?_cons_zero, List.getElem?_cons_succ]; rfl)
          refine step_own rfl (.tmp 12) (.tmp 18) 26 38 (.agg #[.int .i64 0, .slice none 0 0]) 2 32 rfl Try.underlying26 info_I rfl (by decide) (by decide) B oa oc k (imC (nsM k) (vals gs)) rfl O4.out (some ⟨w4.heap.size, 0, none⟩) 1 1 [.int .i64 (511 - (k : Int)), .slice (some ⟨g, 0, none⟩) 4096 4096] rfl rfl R5 (by simp [Value.oneCell']) (by omega) hz4 ?_
          intro A1 c1 w8 h8 K8 hA8
          have hF8 := K8.row (HFA.out w4 b4 g) HNF.out
          have fF8 := frozen_of_row _ (w.heap.size + 1) 2 _ _ hF8
          have cF8 := (cells3 hF8).2.2
          refine hK.out _ _ (by trivial) (fun hHeld => ?_)
          clear hK K
          try simp only [Act.put, List.setIfInBounds_toArray, List.set_cons_zero, List.set_cons_succ]
          refine wpAnyH_take (i := 9) (oi := ?o9z8) (v := ?v9z8) ?hi9z8 (by kernel_rfl) (by kernel_rfl) ?hr9z8 ?hQ9z8 ?hy9z8 hHeld ?r9z8
          case hi9z8 => (simp only [List.getElem?_toArray, List.getElem?_cons_zero, List.getElem?_cons_succ]; rfl)
          case hr9z8 => kernel_rfl
          case hQ9z8 => exact fun _ _ _ h => h
          case hy9z8 => (refine Or.inl ⟨by rfl, ?_⟩; intro w hSw; (try dsimp only at hSw); go_simp; try with_reducible rfl)
          try simp only [Act.put, List.setIfInBounds_toArray, List.set_cons_zero, List.set_cons_succ]
          refine wpAnyH_ready (rs := [10]) (by kernel_rfl) (by simp) (AllReadyH.cons (o := ?o10z8) ?hi10z8 (fun K hK => ?r10z8) AllReadyH.nil)
          case hi10z8 => (simp only [List.getElem?_toArray, List.getElem?_cons_zero, List.getElem?_cons_succ]; rfl)
          go_simp
          refine hK.out _ _ (by trivial) (fun hHeld => ?_)
          clear hK K
          try simp only [Act.put, List.setIfInBounds_toArray, List.set_cons_zero, List.set_cons_succ]
          refine wpAnyH_done (by kernel_rfl) ?_ _
          clear hF8
          go_wp2_with fail
          go_roundw
          case rel => exact ⟨k + 1, by omega, by go_num, HFIN.out w4 g ho4 b4 A1 c1 w8 h8 K8⟩
          case measure => simp [intOf]; omega
    · obtain rfl : k = n := by omega
      obtain ⟨q0, q1, q2⟩ := cells3 hF
      have hs := set3 hG (.int .i64 8388608) (.int .i64 549755813888) (.slice oa k oc)
      obtain ⟨r0, r1, r2⟩ := cells3 hG
      obtain ⟨v0, v1, v2⟩ := cells3 hs.1
      have f0 := frozen_of_row _ w.heap.size 0 _ _ hG
      have f1 := frozen_of_row _ w.heap.size 1 _ _ hG
      have f2 := frozen_of_row _ w.heap.size 2 _ _ hG
      have hI := him.kpt hs.2 (fun b hb e => by have := own_base him.row b (own_img him.row hb); omega) (fun p hp e => by have := (him.blk.lt hp).1; omega)
      have hrd := hI.rd
      rw [zipM] at hrd
      have HRD := hid hrd
      have HB := hid (belowK hb hs.2 (fun b hb => by omega) hb.size)
      clear hF hG him hb hs hI hrd hBe
      go_wp2
      refine bodyPost_ret (v := .agg #[.int .i64 8388608, .int .i64 549755813888, .slice oa k oc]) ?_ rfl ⟨HB.out, oa, oc, rfl, HRD.out⟩
      simp [results, Try.results12, go_sem, v0, v1, v2]
end Go.Proofs.Ytknhfaplddgnlaa
