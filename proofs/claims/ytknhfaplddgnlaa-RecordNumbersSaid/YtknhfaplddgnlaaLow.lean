/- The walks of ledgerstonelow's functions on bytes and numbers. -/
import Derived.Test.YtknhfaplddgnlaaBase
namespace Go.Proofs.Ytknhfaplddgnlaa
open Go.RowKit
set_option maxHeartbeats 800000
set_option linter.unusedVariables false
set_option linter.unusedSimpArgs false

theorem SameBytes_any (w : World) (a b : Option Addr) (c d n m : Nat) (l r : List UInt8) (hn : n = l.length) (hm : m = r.length) (hl : RdB w a l) (hr : RdB w b r) :
    Calls Try.prog 9 #[.slice a n c, .slice b m d] w fun e w' => e = .returned (.bool (l == r)) ∧ w = w' := by
  subst hn hm
  have h1 := run_strB c hl
  have h2 := run_strB d hr
  have h3 := strB_toList l
  have h4 := strB_toList r
  go_enter Try.func9, Try.ntmps9
  go_wp2
  go_ret
  exact ⟨rfl, rfl⟩

theorem SameBytes_self (w : World) (a b : Option Addr) (c d n m : Nat) (l : List UInt8) (hn : n = l.length) (hm : m = l.length) (hl : RdB w a l) (hr : RdB w b l) :
    Calls Try.prog 9 #[.slice a n c, .slice b m d] w fun e w' => e = .returned (.bool true) ∧ w = w' := by
  refine (SameBytes_any w a b c d n m l l hn hm hl hr).mono ?_
  rintro e w' ⟨rfl, rfl⟩
  exact ⟨by simp, rfl⟩
theorem CopyBytes_any (w : World) (a : Option Addr) (c N : Nat) (l : List UInt8) (hN : N = l.length) (hl : l.length ≤ 200000000000000) (hr : RdB w a l) :
    Calls Try.prog 36 #[.slice a N c] w fun e w' =>
      ∃ A c', e = .returned (.slice A N c') ∧ OwnB w.heap.size w' A c' l ∧ Below w.heap.size w w' := by
  subst hN
  go_enter Try.func36, Try.ntmps36
  go_wp2_with (at_builtin; refine app_bytes rfl (.tmp 4) (.tmp 5) rfl w.heap.size none 0 0 [] rfl rfl (OwnB.nil _ _) a l.length c l rfl rfl hr l.length (by simp) (by simpa using hl) w (Below.refl _ _) (Nat.le_refl _) ?_; intro A1 c1 w2 ho2 hb2 _ _)
  go_ret
  exact ⟨A1, c1, rfl, by simpa using ho2, hb2⟩

end Go.Proofs.Ytknhfaplddgnlaa
