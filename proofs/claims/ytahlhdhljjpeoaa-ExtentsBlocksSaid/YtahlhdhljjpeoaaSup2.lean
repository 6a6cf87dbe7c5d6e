/- The superblock: the document's PutSuper, and GetSuper of both sides. -/
import Derived.Test.YtahlhdhljjpeoaaSup
import Derived.Deep.RegionHeld3
import Derived.BigRegion
namespace Go.Proofs.Ytahlhdhljjpeoaa
open Go.RowKit
theorem below_drew (w : World) : Below w.heap.size w w.drew := ⟨rfl, rfl, rfl, Nat.le_refl _, fun _ _ => rfl⟩
set_option maxHeartbeats 800000
set_option linter.unusedVariables false
set_option linter.unusedSimpArgs false

def lenOfV : Value → Nat
  | .slice _ n _ => n
  | _ => 0
theorem zeros_succ (k : Nat) : zeros (k + 1) = zeros k ++ [0] := by simp [zeros, List.replicate_succ']
theorem radd_any (w : World) (a : Option Addr) (c N : Nat) (l : List UInt8) (hN : N = l.length) (v n : Nat) (x y : Int) (hx : x = (v : Int)) (hy : y = (n : Int)) (hl : l.length ≤ 199999999999000) (hr : RdB w a l) (hn : n ≤ 8) (hv : v < 9223372036854775808) :
    Calls Try.prog 106 #[.slice a N c, .int .i64 x, .int .i64 y] w fun e w' =>
      ∃ A c', e = .returned (.slice A (N + n) c') ∧ OwnB w.heap.size w' A c' (l ++ be v n) ∧ Below w.heap.size w w' := by
  subst hN hx hy
  have HV := hid (show v < 18446744073709551616 by omega)
  go_enter Try.func106, Try.ntmps106
  go_wp2_with fail
  refine (refAdd_any _ _ _ _ l rfl v n _ rfl hl hr hn HV.out).mono ?_
  rintro e w1 ⟨A1, c1, rfl, h1, b1⟩
  go_wp2
  go_ret
  exact ⟨A1, c1, rfl, h1, b1⟩
theorem conv_const_drew (w : World) (C : Array Value) (n c : Nat) (g : Nat) (hg : g = w.heap.size) : (convert 61 61 (.slice (some ⟨g, 0, none⟩) n c)).run Try.prog (w.alloc (.cells C 5)).drew = .ok (.slice (some ⟨g, 0, none⟩) n c) (w.alloc (.cells C 5 (C.size, C.size + 1))).drew := conv_const w.drew C n c g hg
theorem RdB.markedd (w : World) (cs : Array Value) (t : TypeId) (p : Nat × Nat) (l : List UInt8) (h : cs.toList = B8s l) {g : Nat} (hg : g = w.heap.size) : RdB (w.alloc (.cells cs t p)).drew (some ⟨g, 0, none⟩) l := RdB.marked w cs t p l h hg
theorem radd8_any (w : World) (a : Option Addr) (c N : Nat) (l : List UInt8) (v : Nat) (hN : l.length = N) (hl : N ≤ 1000) (hr : RdB w a l) (hv : v < 9223372036854775808) :
    Calls Try.prog 106 #[.slice a N c, .int .i64 (v : Int), .int .i64 8] w fun e w' =>
      ∃ A c', e = .returned (.slice A (N + 8) c') ∧ OwnB w.heap.size w' A c' (l ++ be v 8) ∧ Below w.heap.size w w' :=
  radd_any w a c N l hN.symm v 8 _ _ rfl rfl (by omega) hr (by decide) hv
theorem keep4 {v W : World} {g : Nat} {a b c d : Value} (h : v.cell? ⟨g, 0, none⟩ = some a ∧ v.cell? ⟨g, 1, none⟩ = some b ∧ v.cell? ⟨g, 2, none⟩ = some c ∧ v.cell? ⟨g, 3, none⟩ = some d) (bl : Below v.heap.size v W) :
    W.cell? ⟨g, 0, none⟩ = some a ∧ W.cell? ⟨g, 1, none⟩ = some b ∧ W.cell? ⟨g, 2, none⟩ = some c ∧ W.cell? ⟨g, 3, none⟩ = some d := ⟨cell_below bl h.1, cell_below bl h.2.1, cell_below bl h.2.2.1, cell_below bl h.2.2.2⟩
end Go.Proofs.Ytahlhdhljjpeoaa
