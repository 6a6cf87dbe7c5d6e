/- OverBytes: what was lent is written over. -/
import Derived.Test.YtddejjmebokgiaaRfG
import Derived.Test.YtddejjmebokgiaaMark
namespace Go.Proofs.Ytddejjmebokgiaa
open Go.RowKit
variable {Q : Nat → Prop}
set_option maxHeartbeats 3200000
set_option maxRecDepth 100000
set_option linter.unusedVariables false
set_option linter.unusedSimpArgs false

theorem OverBytes_any (w : World) (g c N base : Nat) (l : List UInt8) (hN : l.length = N + 3) (hNm : N ≤ 1000000) (ho : OwnB base w (some ⟨g, 0, none⟩) c l) :
    Calls Try.prog 53 #[.slice (some ⟨g, 0, none⟩) N c] w fun e w' => e = .returned (.tuple #[]) ∧ Kpt (fun b => b = g) w w' := by
  have hcap := ho.cap
  rw [hN] at hcap
  have MB := fun (W : World) (i : Nat) (hi : i ≤ 1000003) => markByte_any W 9 i 9 (i : Int) rfl rfl (by decide) (by omega)
  go_enter Try.func53, Try.ntmps53
  go_wp2_with fail
  go_loopw [3] (fun i wr => ∃ (j : Nat) (l' : List UInt8), j ≤ N + 3 ∧ i = .int .i64 j ∧ OwnB base wr (some ⟨g, 0, none⟩) c l' ∧ l'.length = N + 3 ∧ Kpt (fun b => b = g) w wr) (fun i _ => N + 3 - (intOf i).toNat)
  case atStart => exact ⟨0, l, by omega, rfl, ho, hN, Kpt.refl _ _⟩
  case round =>
    obtain ⟨j, l', hj, rfl, ho', hl', hk⟩ := hrel
    obtain ⟨u, rfl⟩ : ∃ u, u = wr := ⟨_, rfl⟩
    by_cases hlt : j < N + 3
    · obtain ⟨g', e, hgb, hc2, _⟩ := ho'.at_ (by intro e; rw [e] at hl'; simp at hl')
      simp only [Option.some.injEq, Addr.mk.injEq, and_true] at e
      subst e
      have y := hc2 j (by omega)
      have fz := ho'.free j
      have st := ho'.store j (mkB 9 j)
      have hl2 : (l'.set j (mkB 9 j)).length = N + 3 := by rw [List.length_set]; exact hl'
      have kk := hk.setCell (S := fun b => b = g) (p := ⟨g, j, none⟩) rfl (.int .u8 ((mkB 9 j).toNat : Int))
      have ST := hid st; have HL2 := hid hl2; have KK := hid kk
      have MBj := MB u j (by omega)
      clear st hl2 kk hc2 ho' hk
      generalize mkB 9 j = mb at *
      go_wp2_with fail
      refine MBj.mono ?_
      rintro e u2 ⟨rfl, rfl⟩
      go_wp2_with fail
      exact ⟨⟨j + 1, _, by omega, by go_num, ST.out, HL2.out, KK.out⟩, by simp [intOf]; omega⟩
    · obtain rfl : j = N + 3 := by omega
      go_wp2_with fail
      go_end0
      exact ⟨rfl, hk⟩
end Go.Proofs.Ytddejjmebokgiaa
