/- Rows of the call's own, behind a store into another block. -/
import Derived.Test.YtahlhdhljjpeoaaExt4
namespace Go.Proofs.Ytahlhdhljjpeoaa
open Go.RowKit
set_option linter.unusedVariables false
theorem own_setOther {w : World} {base n : Nat} {e : TypeId} {size : Nat} {v : Value} {xs : List Value} (h : w.ownsRow base e size v n xs) {g : Nat} (hg : g < base) (j : Nat) (u : Value) : (w.setCell ⟨g, j, none⟩ u).ownsRow base e size v n xs := by
  refine h.kept (row := some g) ⟨rfl, rfl, rfl, by simp [World.setCell], fun k _ hk => heap_setCell_other _ _ _ _ (fun e => hk (by simp [e]))⟩ ?_
  cases hv : v.ownBlock with
  | none => exact .inl rfl
  | some k =>
    refine .inr ?_
    have := own_base h k hv
    simp only [ne_eq, Option.some.injEq]
    omega
theorem OwnX.setOther {w : World} {base : Nat} {A : Option Addr} {c : Nat} {l : List Ext} (h : OwnX base w A c l) {g : Nat} (hg : g < base) (j : Nat) (u : Value) : OwnX base (w.setCell ⟨g, j, none⟩ u) A c l := own_setOther h hg j u
end Go.Proofs.Ytahlhdhljjpeoaa
