/- The walk of the statement OctetsNumbers. -/
import Derived.Test.YtohileppckhgeaaLaw01
namespace Go.Proofs.Ytohileppckhgeaa
open Go.RowKit
set_option maxHeartbeats 1600000
set_option linter.unusedVariables false
set_option linter.unusedSimpArgs false

theorem numNone (p : Int) (h : p ≠ 0) : numOk [1, 2] p 2 = false ∧ numV [1, 2] p 2 = 0 ∧ numOk [1, 2] p 4 = false ∧ numV [1, 2] p 4 = 0 ∧ txtOk [1, 2] p = false ∧ txtV [1, 2] p = [] ∧ txtEnd [1, 2] p = 0 := by
  have h1 : numOk [1, 2] p 2 = false := by simp [numOk]; omega
  have h2 : numOk [1, 2] p 4 = false := by simp [numOk]; omega
  have h3 : txtOk [1, 2] p = false := by simp [txtOk, h1]
  exact ⟨h1, by simp [numV, h1], h2, by simp [numV, h2], h3, by simp [txtV, h3], by simp [txtEnd, h3]⟩
theorem conv_made (n : Nat) : ∀ (W : World) (g : Nat), g = W.heap.size → (convert 25 9 (.slice (some ⟨g, 0, none⟩) n n)).run Try.prog (W.alloc (.cells (madeCells #[.int .u8 0] n) 5)) = .ok (.string (strB (zeros n))) (W.alloc (.cells (madeCells #[.int .u8 0] n) 5)) := by
  intro W g hg
  have := run_strB n (RdB.made W n hg)
  rwa [zeros_length] at this
def five (j : Nat) : Int := [1, -1, 2, 9223372036854775807, -9223372036854775808].getD j 0
theorem five_ok : ∀ j, j < 5 → five j ≠ 0 ∧ -9223372036854775808 ≤ five j ∧ five j ≤ 9223372036854775807 := by decide
theorem five_cells (W : World) (t : TypeId) (g : Nat) (hg : g = W.heap.size) (j : Nat) (hj : j < 5) :
    (W.alloc (.cells #[.int .i64 1, .int .i64 (-1), .int .i64 2, .int .i64 9223372036854775807, .int .i64 (-9223372036854775808)] t)).cell? ⟨g, j, none⟩ = some (.int .i64 (five j)) := by
  subst hg
  rw [cell_of_row _ _ _ _ t (0, 0) (heap_alloc_new W _)]
  match j, hj with
  | 0, _ => rfl
  | 1, _ => rfl
  | 2, _ => rfl
  | 3, _ => rfl
  | 4, _ => rfl
set_option maxRecDepth 100000 in
theorem OctetsNumbers_any (w : World) : Calls Try.prog 11 #[] w fun e w' => e = .returned (.bool true) ∧ Below w.heap.size w w' := by
  have hm7 := run_mkB 7 7 7 rfl rfl (by decide)
  have s0 := strB_toList []
  have s56 := strB_toList [5, 6]
  have hmA := run_mkB 65536 65536 65536 rfl rfl (by decide)
  have hmB := run_mkB 65535 65535 65535 rfl rfl (by decide)
  have hcA := conv_made 65536
  have hcB := conv_made 65535
  have zA : (strB (zeros 65536)).size = 65536 := by rw [strB_size, zeros_length]
  have zB : (strB (zeros 65535)).size = 65535 := by rw [strB_size, zeros_length]
  generalize strB (zeros 65536) = sA at *
  generalize strB (zeros 65535) = sB at *
  go_enter Try.func11, Try.ntmps11
  go_wp2_with fail
  refine (U16_any _ _ _ _ [1, 2] rfl _ (by decide) (RdB.lit _ _ _ _ rfl (by simp)) (by decide)).mono ?_
  rw [show numV [1, 2] 0 2 = 258 by decide, show numOk [1, 2] 0 2 = true by decide]; rintro e w' ⟨rfl, rfl⟩
  go_wp2_with fail
  refine (U64_any _ _ _ _ (zeros 7) rfl _ (by decide) (RdB.made _ _ (by simp)) (by decide)).mono ?_
  rw [show numV (zeros 7) 0 8 = 0 by decide, show numOk (zeros 7) 0 8 = false by decide]; rintro e w' ⟨rfl, rfl⟩
  go_wp2_with fail
  refine (U64_any _ _ _ _ [128, 0, 0, 0, 0, 0, 0, 1] rfl _ (by decide) (RdB.lit _ _ _ _ rfl (by simp)) (by decide)).mono ?_
  rw [show numV [128, 0, 0, 0, 0, 0, 0, 1] 0 8 = 9223372036854775809 by decide, show numOk [128, 0, 0, 0, 0, 0, 0, 1] 0 8 = true by decide]; rintro e w' ⟨rfl, rfl⟩
  go_wp2_with fail
  refine (U8_any _ _ _ _ [5] rfl _ (by decide) (RdB.lit _ _ _ _ rfl (by simp)) (by decide)).mono ?_
  rw [show numV [5] 0 1 = 5 by decide, show numOk [5] 0 1 = true by decide]; rintro e w' ⟨rfl, rfl⟩
  go_wp2_with fail
  go_loopw [78] (fun i wr => ∃ k : Nat, k ≤ 5 ∧ i = .int .i64 k ∧ (∀ j, j < 5 → wr.cell? ⟨w.heap.size + 1 + 1 + 1 + 1, j, none⟩ = some (.int .i64 (five j))) ∧ Below w.heap.size w wr) (fun i _ => 5 - (intOf i).toNat)
  case atStart =>
    refine ⟨0, by omega, rfl, fun j hj => five_cells _ _ _ (by simp) j hj, ?_⟩
    exact ((((((Below.refl _ w).alloc (by simp) _).alloc (by simp) _).alloc (by simp; omega) _).alloc (by simp; omega) _).alloc (by simp; omega) _)
  case round =>
    obtain ⟨k, hk, rfl, hc, hb⟩ := hrel
    have hsz := hb.size
    by_cases hlt : k < 5
    · have hck := hc k hlt
      obtain ⟨f0, f1, f2⟩ := five_ok k hlt
      generalize five k = p at *
      obtain ⟨z1, z2, z3, z4, z5, z6, z7⟩ := numNone p f0
      have F := hid (And.intro f1 f2)
      have Z := hid (And.intro z1 (And.intro z2 (And.intro z3 (And.intro z4 (And.intro z5 (And.intro z6 z7))))))
      have HC := hid hc
      clear f0 f1 f2 z1 z2 z3 z4 z5 z6 z7 hc
      go_wp2_with fail
      refine (U16_any _ _ _ _ [1, 2] rfl _ (by decide) (RdB.lit _ _ _ _ rfl (by simp)) F.out).mono ?_
      rw [Z.out.1, Z.out.2.1]; rintro e w' ⟨rfl, rfl⟩
      go_wp2_with fail
      refine (U32_any _ _ _ _ [1, 2] rfl _ (by decide) (RdB.lit _ _ _ _ rfl (by simp)) F.out).mono ?_
      rw [Z.out.2.2.1, Z.out.2.2.2.1]; rintro e w' ⟨rfl, rfl⟩
      go_wp2_with fail
      refine (Text_any _ _ _ _ [1, 2] rfl _ (by decide) (by decide) (RdB.lit _ _ _ _ rfl (by simp)) F.out).mono ?_
      rw [Z.out.2.2.2.2.1, Z.out.2.2.2.2.2.1, Z.out.2.2.2.2.2.2]; rintro e w' ⟨rfl, rfl⟩
      go_wp2
      go_roundw
      case rel =>
        refine ⟨k + 1, by omega, by go_num, fun j hj => ?_, ((hb.alloc hsz _).alloc (by simp; omega) _).alloc (by simp; omega) _⟩
        exact cell_below ((((Below.refl _ wr).alloc (by simp) _).alloc (by simp) _).alloc (by simp; omega) _) (HC.out j hj)
      case measure => simp [intOf]; omega
    · obtain ⟨wo, rfl⟩ : ∃ wo : World, wo = wr := ⟨_, rfl⟩
      clear hc
      go_wp2_with fail
      refine (Text_any _ _ _ _ [0, 2, 5, 6] rfl _ (by decide) (by decide) (RdB.lit _ _ _ _ rfl (by simp)) (by decide)).mono ?_
      rw [show txtV [0, 2, 5, 6] 0 = [5, 6] by decide, show txtOk [0, 2, 5, 6] 0 = true by decide, show txtEnd [0, 2, 5, 6] 0 = 4 by decide]; rintro e w' ⟨rfl, rfl⟩
      go_wp2_with fail
      refine (Text_any _ _ _ _ [0, 2, 5, 6] rfl _ (by decide) (by decide) (RdB.lit _ _ _ _ rfl (by simp)) (by decide)).mono ?_
      rw [show txtV [0, 2, 5, 6] 1 = [] by decide, show txtOk [0, 2, 5, 6] 1 = false by decide, show txtEnd [0, 2, 5, 6] 1 = 0 by decide]; rintro e w' ⟨rfl, rfl⟩
      go_wp2_with fail
      refine (Text_any _ _ _ _ [0, 3, 5, 6] rfl _ (by decide) (by decide) (RdB.lit _ _ _ _ rfl (by simp)) (by decide)).mono ?_
      rw [show txtV [0, 3, 5, 6] 0 = [] by decide, show txtOk [0, 3, 5, 6] 0 = false by decide, show txtEnd [0, 3, 5, 6] 0 = 0 by decide]; rintro e w' ⟨rfl, rfl⟩
      go_wp2_with fail
      refine (AddText_long _ none 0 0 sA (by omega)).mono ?_
      rintro e w' ⟨rfl, rfl⟩
      go_wp2_with fail
      refine (AddText_any _ none 0 0 [] rfl sB (by decide) (RdB.nil _ _) (by omega)).mono ?_
      rintro e w7 ⟨A7, c7, rfl, h7, b7⟩
      have b8 := ((((hb.alloc hsz _).alloc (by simp; omega) _).alloc (by simp; omega) _).alloc (by simp; omega) _).alloc (by simp; omega) _ |>.trans (b7.mono (by simp; omega))
      clear h7 hcA hcB hmA hmB
      go_wp2_with (go_at_call 32; refine (awake01_any _).mono ?_; rintro e w9 ⟨rfl, b9⟩)
      go_ret
      exact ⟨rfl, b8.trans (b9.mono b8.size)⟩
end Go.Proofs.Ytohileppckhgeaa
