/- record.right. -/
import Derived.Test.YtknhfaplddgnlaaRecA
namespace Go.Proofs.Ytknhfaplddgnlaa
open Go.RowKit
set_option maxHeartbeats 1000000
set_option maxRecDepth 100000
set_option linter.unusedVariables false
set_option linter.unusedSimpArgs false

abbrev Img := Int × List UInt8
/-- The images lie there. -/
def RdG (w : World) (a : Option Addr) (g : List Img) : Prop :=
  ∀ (i : Nat) (x : Img), g[i]? = some x → ∃ b off A c, a = some ⟨b, off, none⟩ ∧ w.cell? ⟨b, off + i * 2, none⟩ = some (.int .i64 x.1) ∧ w.cell? ⟨b, off + i * 2 + 1, none⟩ = some (.slice A x.2.length c) ∧ RdB w A x.2 ∧ x.2.length ≤ c ∧ c ≤ 9223372036854775807
theorem RdG.below {w w' : World} {a : Option Addr} {g : List Img} (h : RdG w a g) (k : Below w.heap.size w w') : RdG w' a g := by
  intro i x hx
  obtain ⟨b, off, A, c, h1, h2, h3, h4, h5⟩ := h i x hx
  exact ⟨b, off, A, c, h1, cell_below k h2, cell_below k h3, h4.below k, h5⟩
/-- May the images be? -/
def okP (l : List Img) : Prop := (∀ x ∈ l, 0 ≤ x.1 ∧ x.1 ≤ 511 ∧ x.2.length = 4096) ∧ (l.map (·.1)).Nodup
instance (l : List Img) : Decidable (okP l) := by unfold okP; infer_instance
theorem okP_snoc (l : List Img) (x : Img) : okP (l ++ [x]) ↔ okP l ∧ (0 ≤ x.1 ∧ x.1 ≤ 511 ∧ x.2.length = 4096) ∧ x.1 ∉ l.map (·.1) := by
  unfold okP
  simp only [List.mem_append, List.mem_singleton, List.map_append, List.map_cons, List.map_nil]
  rw [List.nodup_append]
  constructor
  · rintro ⟨h1, h2, _, h3⟩
    exact ⟨⟨fun y hy => h1 y (.inl hy), h2⟩, h1 x (.inr rfl), fun h => h3 _ h _ (by simp) rfl⟩
  · rintro ⟨⟨h1, h2⟩, h3, h4⟩
    refine ⟨fun y hy => ?_, h2, by simp, fun y hy z hz => ?_⟩
    · rcases hy with hy | rfl
      · exact h1 y hy
      · exact h3
    · simp only [List.mem_singleton] at hz
      subst hz
      rintro rfl
      exact h4 hy
theorem okP_take (l : List Img) (k : Nat) (h : okP l) : okP (l.take k) :=
  ⟨fun x hx => h.1 x (List.mem_of_mem_take hx), by rw [List.map_take]; exact h.2.sublist (List.take_sublist _ _)⟩
theorem take_snoc {α : Type} (l : List α) (k : Nat) (x : α) (hx : l[k]? = some x) : l.take (k + 1) = l.take k ++ [x] := by
  rw [List.take_add_one, hx]
  rfl
def rightG (ep seq : Int) (ims : List Img) : Bool := decide (1 ≤ ep ∧ ep ≤ 8388608 ∧ 1 ≤ seq ∧ seq ≤ 549755813888 ∧ 1 ≤ ims.length ∧ ims.length ≤ 32 ∧ okP ims)
/-- Which blocks have been seen. -/
def sn (l : List Int) : Array Value := ((List.range 512).map fun (j : Nat) => Value.bool (l.any fun x => x == (j : Int))).toArray
theorem sn_nil : sn [] = Array.replicate 512 (.bool false) := by
  apply Array.ext
  · simp [sn]
  · intro i h1 h2
    simp [sn]
theorem sn_size (l : List Int) : (sn l).size = 512 := by simp [sn]
theorem sn_at (l : List Int) (j : Nat) (h : j < 512) : (sn l)[j]? = some (.bool (l.any fun x => x == (j : Int))) := by simp [sn, h]
theorem sn_set (l : List Int) (j : Nat) (h : j < 512) : (sn l).setIfInBounds j (.bool true) = sn (l ++ [(j : Int)]) := by
  apply Array.ext
  · simp [sn]
  · intro i h1 h2
    have hi : i < 512 := by simpa [sn] using h1
    rw [Array.getElem_setIfInBounds (by rw [sn_size]; exact hi)]
    by_cases e : j = i
    · subst e
      simp [sn]
    · rw [if_neg e]
      have e' : ¬ ((j : Int) = (i : Int)) := by omega
      simp [sn, e']
theorem info_512 : (Try.prog.info? 76).map (fun i => i.zero) = some (some (.agg (Array.replicate 512 (.bool false)))) := by kernel_rfl
theorem zero_512 (W : World) : (zeroValue 76).run Try.prog W = .ok (.agg (sn [])) W := by
  have h := info_512
  rw [sn_nil]
  cases hi : Try.prog.info? 76 with
  | none => rw [hi] at h; cases h
  | some i =>
    rw [hi] at h
    simp only [Option.map_some, Option.some.injEq] at h
    simp [zeroValue, typeInfo, hi, h]
theorem right_any (w : World) (ep seq : Int) (a : Option Addr) (N c : Nat) (ims : List Img) (hN : N = ims.length) (hr : RdG w a ims) :
    Calls Try.prog 29 #[.agg #[.int .i64 ep, .int .i64 seq, .slice a N c]] w fun e w' => e = .returned (.bool (rightG ep seq ims)) ∧ Below w.heap.size w w' := by
  have hbad : (ep < 1 ∨ 8388608 < ep ∨ seq < 1 ∨ 549755813888 < seq ∨ (N : Int) < 1 ∨ 32 < (N : Int) ∨ ¬ okP ims) → rightG ep seq ims = false := by
    intro h
    exact decide_eq_false (by
      rintro ⟨g1, g2, g3, g4, g5, g6, g7⟩
      rcases h with h | h | h | h | h | h | h <;> first | omega | exact h g7)
  have hb0 : Below w.heap.size w (w.alloc (.cells #[.int .i64 ep, .int .i64 seq, .slice a N c] 28)) := (Below.refl _ _).alloc (Nat.le_refl _) _
  by_cases h1 : ep < 1
  · have HB := hid (hbad (by omega))
    clear hbad hr hN
    go_enter Try.func29, Try.ntmps29
    go_wp2
    go_ret
    exact ⟨by rw [HB.out]; rfl, hb0⟩
  by_cases h2 : 8388608 < ep
  · have HB := hid (hbad (by omega))
    clear hbad hr hN
    go_enter Try.func29, Try.ntmps29
    go_wp2
    go_ret
    exact ⟨by rw [HB.out]; rfl, hb0⟩
  by_cases h3 : seq < 1
  · have HB := hid (hbad (by omega))
    clear hbad hr hN
    go_enter Try.func29, Try.ntmps29
    go_wp2
    go_ret
    exact ⟨by rw [HB.out]; rfl, hb0⟩
  by_cases h4 : 549755813888 < seq
  · have HB := hid (hbad (by omega))
    clear hbad hr hN
    go_enter Try.func29, Try.ntmps29
    go_wp2
    go_ret
    exact ⟨by rw [HB.out]; rfl, hb0⟩
  by_cases h5 : (N : Int) < 1
  · have HB := hid (hbad (by omega))
    clear hbad hr hN
    go_enter Try.func29, Try.ntmps29
    go_wp2
    go_ret
    exact ⟨by rw [HB.out]; rfl, hb0⟩
  by_cases h6 : 32 < (N : Int)
  · have HB := hid (hbad (by omega))
    clear hbad hr hN
    go_enter Try.func29, Try.ntmps29
    go_wp2
    go_ret
    exact ⟨by rw [HB.out]; rfl, hb0⟩
  have hgood : okP ims → rightG ep seq ims = true := fun h => decide_eq_true ⟨by omega, by omega, by omega, by omega, by omega, by omega, h⟩
  have hbad' : ¬ okP ims → rightG ep seq ims = false := fun h => hbad (.inr (.inr (.inr (.inr (.inr (.inr h))))))
  have HB := hid hbad'; have HG := hid hgood; have HN := hid hN
  have hz := zero_512
  have hrow0 := heap_alloc_new (w.alloc (.cells #[.int .i64 ep, .int .i64 seq, .slice a N c] 28)) (.cells (sn []) 76)
  have hb1 : Below w.heap.size w ((w.alloc (.cells #[.int .i64 ep, .int .i64 seq, .slice a N c] 28)).alloc (.cells (sn []) 76)) := hb0.alloc (by simp) _
  rw [World.size_alloc] at hrow0
  clear hbad hbad' hgood hN
  go_enter Try.func29, Try.ntmps29
  go_wp2_with fail
  go_loopw [39] (fun i wr => ∃ k : Nat, k ≤ N ∧ i = .int .i64 k ∧ okP (ims.take k) ∧ wr.heap[w.heap.size + 1]? = some (.cells (sn ((ims.take k).map (·.1))) 76 (0, 0)) ∧ Below w.heap.size w wr) (fun i _ => N - (intOf i).toNat)
  case atStart => exact ⟨0, Nat.zero_le _, rfl, ⟨fun x hx => by simp at hx, by simp⟩, hrow0, hb1⟩
  case round =>
    obtain ⟨k, hk, rfl, hok, hrow, hbl⟩ := hrel
    have HOK := hid hok
    have hlR := heap_in hrow
    clear hok hrow0 hb1
    by_cases hlt : k < N
    · obtain ⟨x, hx⟩ : ∃ x, ims[k]? = some x := ⟨ims[k]'(by rw [← HN.out]; exact hlt), List.getElem?_eq_getElem _⟩
      obtain ⟨b, off, A, cc, rfl, c0, c1, _, hcc⟩ := (hr.below hbl) k x hx
      have ht := take_snoc ims k x hx
      have hno : ¬ okP (ims.take (k + 1)) → rightG ep seq ims = false := fun h => HB.out (fun h2 => h (okP_take _ _ h2))
      rw [ht, okP_snoc] at hno
      have HNO := hid hno; have HT := hid ht
      obtain ⟨xb, xd⟩ := x
      simp only at c0 c1 hcc HNO
      have hbx : Below w.heap.size w (wr.alloc (.cells #[.int .i64 xb, .slice A xd.length cc] 38)) := hbl.alloc hbl.size _
      have HX := hid hx
      clear hno ht hx
      by_cases g1 : xb < 0
      · have HF := hid (HNO.out (fun h => by have := h.2.1.1; omega))
        clear HNO
        go_wp2
        go_ret
        exact ⟨by rw [HF.out]; rfl, hbx⟩
      by_cases g2 : 512 ≤ xb
      · have HF := hid (HNO.out (fun h => by have := h.2.1.2.1; omega))
        clear HNO
        go_wp2
        go_ret
        exact ⟨by rw [HF.out]; rfl, hbx⟩
      obtain ⟨j, rfl⟩ := Int.eq_ofNat_of_zero_le (show 0 ≤ xb by omega)
      have hj : j < 512 := by omega
      have hsc : wr.cell? ⟨w.heap.size + 1, j, none⟩ = some (.bool (((ims.take k).map (·.1)).any fun x => x == (j : Int))) := by
        rw [cell_of_row _ _ _ _ _ _ hrow]
        exact sn_at _ j hj
      rcases hs : ((ims.take k).map (·.1)).any fun x => x == (j : Int)
      · rw [hs] at hsc
        have hni : (j : Int) ∉ (ims.take k).map (·.1) := by
          intro h
          have := List.any_eq_false.1 hs _ h
          simp at this
        have HNI := hid hni
        clear hs hni
        by_cases g3 : xd.length = 4096
        · have g3' : ((xd.length : Int) != 4096) = false := by simpa using (show (xd.length : Int) = 4096 by omega)
          have hrow1 : (wr.alloc (.cells #[.int .i64 (j : Int), .slice A xd.length cc] 38)).heap[w.heap.size + 1]? = some (.cells (sn ((ims.take k).map (·.1))) 76 (0, 0)) := (Below.heap_alloc _ _ _ hlR).trans hrow
          have hfr := frozen_of_row _ (w.heap.size + 1) j _ _ hrow1
          have hfr0 := frozen_of_row _ (w.heap.size + 1) j _ _ hrow
          have HR0 := hid hrow
          clear hrow1 hrow
          go_wp2
          go_roundw
          case rel =>
            refine ⟨k + 1, by omega, by go_num, ?_, ?_, ?_⟩
            · rw [HT.out, okP_snoc]
              exact ⟨HOK.out, ⟨by simp, by simp only; omega, g3⟩, HNI.out⟩
            · refine (Below.heap_alloc _ _ _ (by simpa [World.setCell] using hlR)).trans ((heap_setCell_same _ _ j _ _ (.bool true) HR0.out).trans ?_)
              rw [sn_set _ _ hj, HT.out, List.map_append]
              rfl
            · have b1 : Below w.heap.size w (wr.setCell ⟨w.heap.size + 1, j, none⟩ (.bool true)) := hbl.setCell (p := ⟨w.heap.size + 1, j, none⟩) (by simp) _
              exact b1.alloc b1.size _
          case measure => simp [intOf]; omega
        · have HF := hid (HNO.out (fun h => g3 h.2.1.2.2))
          have g3' : ((xd.length : Int) == 4096) = false := by simpa using (show ¬ (xd.length : Int) = 4096 by omega)
          clear HNO
          go_wp2
          go_ret
          exact ⟨by rw [HF.out]; rfl, hbx⟩
      · rw [hs] at hsc
        have HF := hid (HNO.out (fun h => by
          obtain ⟨y, hy, e⟩ := List.any_eq_true.1 hs
          simp at e
          subst e
          exact h.2.2 hy))
        clear HNO hs
        go_wp2
        go_ret
        exact ⟨by rw [HF.out]; rfl, hbx⟩
    · obtain rfl : k = N := by omega
      have HF := hid (HG.out (by have := HOK.out; rwa [List.take_of_length_le (by rw [HN.out]; exact Nat.le_refl _)] at this))
      go_wp2
      go_ret
      exact ⟨by rw [HF.out]; rfl, hbl⟩
end Go.Proofs.Ytknhfaplddgnlaa
