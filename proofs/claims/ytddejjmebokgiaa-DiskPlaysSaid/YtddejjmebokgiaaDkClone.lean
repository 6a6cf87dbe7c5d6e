/- slices.Clone at three types. -/
import Derived.Test.YtddejjmebokgiaaDk
import Derived.Lib.SliceRun
namespace Go.Proofs.Ytddejjmebokgiaa
open Go.RowKit
set_option maxHeartbeats 3200000
set_option maxRecDepth 100000
set_option linter.unusedVariables false
set_option linter.unusedSimpArgs false

theorem info_L : (Try.prog.info? 30).map (fun i => (i.zero, i.size, i.bytes)) = some (some (.slice none 0 0), 1, 24) := by kernel_rfl
theorem info_W : (Try.prog.info? 78).map (fun i => (i.zero, i.size, i.bytes)) = some (some (.agg #[.int .i64 0, .slice none 0 0]), 2, 32) := by kernel_rfl
theorem own_empty (w : World) (t : TypeId) (size : Nat) : (w.alloc (.cells #[] t)).ownsRow w.heap.size t size (.slice (some ⟨w.heap.size, 0, none⟩) 0 0) 0 [] := by
  have h := World.ownsRow_lit (base := w.heap.size) (e := t) (size := size) w #[] 0 (Nat.le_refl _) (by simp) (by simp)
  simpa using h
theorem own_slice' {w : World} {base n size : Nat} {e : TypeId} {v : Value} {xs : List Value} (h : w.ownsRow base e size v n xs) (hn : 0 < n) (hs : 0 < size) : ∃ g c, v = .slice (some ⟨g, 0, none⟩) n c ∧ base ≤ g ∧ g < w.heap.size := by
  rcases h.2 with ⟨_, h0⟩ | ⟨g', cap, cur, rfl, hb, hg, r⟩
  · have e := h.1
    have := h0
    rw [h0] at hn
    omega
  · exact ⟨g', cap, rfl, hb, heap_in hg⟩
theorem CloneB_any (w : World) (b off c N : Nat) (l : List UInt8) (hN : N = l.length) (hl : l.length ≤ 200000000000000) (hr : RdB w (some ⟨b, off, none⟩) l) :
    Calls Try.prog 41 #[.slice (some ⟨b, off, none⟩) N c] w fun e w' => ∃ A c', e = .returned (.slice A N c') ∧ OwnB w.heap.size w' A c' l ∧ Below w.heap.size w w' := by
  subst hN
  have ho : OwnB w.heap.size (w.alloc (.cells #[] 5)) (some ⟨w.heap.size, 0, none⟩) 0 [] := own_empty w _ 1
  have q := fun (w : World) (a : Option Addr) (n c n' c' : Nat) => Lib.run_eql_slice_nil (P := Try.prog) w 30 _ a n c n' c' Try.underlying30
  go_enter Try.func41, Try.ntmps41
  go_wp2_with (at_builtin; refine app_bytes rfl (.tmp 5) (.tmp 6) rfl w.heap.size (some ⟨w.heap.size, 0, none⟩) 0 0 [] rfl rfl ho (some ⟨b, off, none⟩) l.length c l rfl rfl (hr.alloc _) l.length (by simp) (by simpa using hl) w ((Below.refl _ w).alloc (Nat.le_refl _) _) (by simp) ?_; intro A1 c1 w2 ho2 hb2 _ _)
  go_ret
  exact ⟨A1, c1, rfl, by simpa using ho2, hb2⟩

theorem CloneL_any (w : World) (b off c n : Nat) (xs : List Value) (hl : xs.length = n * 1) (hn : n ≤ 1000000000) (hr : RdV w (some ⟨b, off, none⟩) xs) (h1 : ∀ u ∈ xs, u.oneCell' = true) :
    Calls Try.prog 39 #[.slice (some ⟨b, off, none⟩) n c] w fun e w' => ∃ A c', e = .returned (.slice A n c') ∧ w'.ownsRow w.heap.size 30 1 (.slice A n c') n xs ∧ Below w.heap.size w w' := by
  have ho := own_empty w 30 1
  have q := fun (w : World) (a : Option Addr) (n c n' c' : Nat) => Lib.run_eql_slice_nil (P := Try.prog) w 33 _ a n c n' c' Try.underlying33
  go_enter Try.func39, Try.ntmps39
  go_wp2_with (at_builtin; refine app_own rfl (.tmp 5) (.tmp 6) 33 30 (.slice none 0 0) 1 24 rfl Try.underlying33 info_L rfl (by decide) (by decide) w.heap.size _ 0 [] rfl ho (some ⟨b, off, none⟩) n c xs rfl hl (hr.alloc _) h1 (by omega) w ((Below.refl _ w).alloc (Nat.le_refl _) _) (by simp) ?_; intro A1 c1 w2 ho2 hb2 _ _)
  simp only [Nat.zero_add, List.nil_append] at ho2
  go_ret
  exact ⟨A1, c1, by simp, ho2, hb2⟩
theorem CloneL_nil (w : World) :
    Calls Try.prog 39 #[.slice none 0 0] w fun e w' => e = .returned (.slice none 0 0) ∧ w' = w := by
  have q := fun (w : World) (a : Option Addr) (n c n' c' : Nat) => Lib.run_eql_slice_nil (P := Try.prog) w 33 _ a n c n' c' Try.underlying33
  go_enter Try.func39, Try.ntmps39
  go_wp2
  go_ret
  exact ⟨rfl, rfl⟩

theorem CloneW_any (w : World) (b off c n : Nat) (xs : List Value) (hl : xs.length = n * 2) (hn : n ≤ 1000000000) (hr : RdV w (some ⟨b, off, none⟩) xs) (h1 : ∀ u ∈ xs, u.oneCell' = true) :
    Calls Try.prog 47 #[.slice (some ⟨b, off, none⟩) n c] w fun e w' => ∃ A c', e = .returned (.slice A n c') ∧ w'.ownsRow w.heap.size 78 2 (.slice A n c') n xs ∧ Below w.heap.size w w' := by
  have ho := own_empty w 78 2
  have q := fun (w : World) (a : Option Addr) (n c n' c' : Nat) => Lib.run_eql_slice_nil (P := Try.prog) w 70 _ a n c n' c' Try.underlying70
  go_enter Try.func47, Try.ntmps47
  go_wp2_with (at_builtin; refine app_own rfl (.tmp 5) (.tmp 6) 70 78 (.agg #[.int .i64 0, .slice none 0 0]) 2 32 rfl Try.underlying70 info_W rfl (by decide) (by decide) w.heap.size _ 0 [] rfl ho (some ⟨b, off, none⟩) n c xs rfl hl (hr.alloc _) h1 (by omega) w ((Below.refl _ w).alloc (Nat.le_refl _) _) (by simp) ?_; intro A1 c1 w2 ho2 hb2 _ _)
  simp only [Nat.zero_add, List.nil_append] at ho2
  go_ret
  exact ⟨A1, c1, by simp, ho2, hb2⟩
theorem CloneW_nil (w : World) :
    Calls Try.prog 47 #[.slice none 0 0] w fun e w' => e = .returned (.slice none 0 0) ∧ w' = w := by
  have q := fun (w : World) (a : Option Addr) (n c n' c' : Nat) => Lib.run_eql_slice_nil (P := Try.prog) w 70 _ a n c n' c' Try.underlying70
  go_enter Try.func47, Try.ntmps47
  go_wp2
  go_ret
  exact ⟨rfl, rfl⟩

theorem one_dats {Q : Nat → Prop} {w : World} {vs : List Value} {ls : List (List UInt8)} (h : Dats Q w vs ls) : ∀ u ∈ vs, u.oneCell' = true := by
  intro u hu
  obtain ⟨i, hi, rfl⟩ := List.getElem_of_mem hu
  obtain ⟨b, off, c, cs, e, _⟩ := h.2 i vs[i] (ls[i]'(by rw [← h.1]; exact hi)) (List.getElem?_eq_getElem hi) (List.getElem?_eq_getElem _)
  rw [e]; rfl
theorem one_wcells : ∀ (ns : List Nat) (vs : List Value), (∀ u ∈ vs, u.oneCell' = true) → ∀ u ∈ wcells ns vs, u.oneCell' = true
  | [], _, _, u, hu => by simp [wcells] at hu
  | _ :: _, [], _, u, hu => by simp [wcells] at hu
  | n :: ns, v :: vs, h, u, hu => by
    simp only [wcells, List.mem_cons] at hu
    rcases hu with rfl | rfl | hu
    · rfl
    · exact h _ (by simp)
    · exact one_wcells ns vs (fun x hx => h x (by simp [hx])) u hu
end Go.Proofs.Ytddejjmebokgiaa
