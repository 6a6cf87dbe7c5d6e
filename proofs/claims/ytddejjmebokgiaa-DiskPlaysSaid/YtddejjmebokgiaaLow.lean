/- The walks of ledgerstonelow's functions on bytes and numbers. -/
import Derived.Test.YtddejjmebokgiaaBase
namespace Go.Proofs.Ytddejjmebokgiaa
open Go.RowKit
set_option maxHeartbeats 800000
set_option linter.unusedVariables false
set_option linter.unusedSimpArgs false

theorem SameBytes_any (w : World) (a b : Option Addr) (c d n m : Nat) (l r : List UInt8) (hn : n = l.length) (hm : m = r.length) (hl : RdB w a l) (hr : RdB w b r) :
    Calls Try.prog 13 #[.slice a n c, .slice b m d] w fun e w' => e = .returned (.bool (l == r)) ∧ w = w' := by
  subst hn hm
  have h1 := run_strB c hl
  have h2 := run_strB d hr
  have h3 := strB_toList l
  have h4 := strB_toList r
  go_enter Try.func13, Try.ntmps13
  go_wp2
  go_ret
  exact ⟨rfl, rfl⟩

theorem SameBytes_self (w : World) (a b : Option Addr) (c d n m : Nat) (l : List UInt8) (hn : n = l.length) (hm : m = l.length) (hl : RdB w a l) (hr : RdB w b l) :
    Calls Try.prog 13 #[.slice a n c, .slice b m d] w fun e w' => e = .returned (.bool true) ∧ w = w' := by
  refine (SameBytes_any w a b c d n m l l hn hm hl hr).mono ?_
  rintro e w' ⟨rfl, rfl⟩
  exact ⟨by simp, rfl⟩
theorem CopyBytes_any (w : World) (a : Option Addr) (c N : Nat) (l : List UInt8) (hN : N = l.length) (hl : l.length ≤ 200000000000000) (hr : RdB w a l) :
    Calls Try.prog 21 #[.slice a N c] w fun e w' =>
      ∃ A c', e = .returned (.slice A N c') ∧ OwnB w.heap.size w' A c' l ∧ Below w.heap.size w w' := by
  subst hN
  go_enter Try.func21, Try.ntmps21
  go_wp2_with (at_builtin; refine app_bytes rfl (.tmp 4) (.tmp 5) rfl w.heap.size none 0 0 [] rfl rfl (OwnB.nil _ _) a l.length c l rfl rfl hr l.length (by simp) (by simpa using hl) w (Below.refl _ _) (Nat.le_refl _) ?_; intro A1 c1 w2 ho2 hb2 _ _)
  go_ret
  exact ⟨A1, c1, rfl, by simpa using ho2, hb2⟩

theorem LentBytes_any (w : World) (a : Option Addr) (c N : Nat) (l : List UInt8) (hN : N = l.length) (hl : l.length ≤ 199999999990000) (hr : RdB w a l) :
    Calls Try.prog 50 #[.slice a N c] w fun e w' =>
      ∃ A c', e = .returned (.slice A N c') ∧ OwnB w.heap.size w' A c' (l ++ [77, 78, 79]) ∧ Below w.heap.size w w' := by
  subst hN
  go_enter Try.func50, Try.ntmps50
  go_wp2_with (first
    | (go_at_call 21; refine (CopyBytes_any _ _ _ _ l rfl (by omega) hr).mono ?_; rintro e w' ⟨A, c', rfl, h1, h2⟩; have hsz := h2.size)
    | (at_builtin; refine app_bytes rfl (.tmp 5) (.tmp 6) rfl w.heap.size A c' l.length l rfl rfl (h1.below ((Below.refl _ _).alloc (Nat.le_refl _) _)) (some ⟨w'.heap.size, 0, none⟩) 3 3 [77, 78, 79] rfl rfl (RdV.new w' #[B8 77, B8 78, B8 79] _) (l.length + 3) rfl (by simp; omega) w (h2.alloc hsz _) (by simp; omega) ?_; intro A1 c1 w2 ho2 hb2 _ _; have hcap : l.length + 3 ≤ c1 := by simpa using ho2.cap.1))
  go_ret
  exact ⟨A1, c1, rfl, ho2, hb2⟩

theorem KeptBytes_any (w : World) (a b : Option Addr) (c d n : Nat) (l : List UInt8) (hn : n = l.length) (hl : l.length ≤ 199999999990000) (hc : l.length + 3 ≤ c) (hr : RdB w a (l ++ [77, 78, 79])) (hs : RdB w b l) :
    Calls Try.prog 52 #[.slice a n c, .slice b n d] w fun e w' => e = .returned (.bool true) ∧ w = w' := by
  subst hn
  obtain ⟨B, off, rfl, hcell⟩ := hr.at_ (by simp)
  have c0 := hcell l.length (by simp)
  have c1 := hcell (l.length + 1) (by simp)
  have c2 := hcell (l.length + 2) (by simp)
  have hr0 : RdB w (some ⟨B, off, none⟩) l := by simpa using hr.part 0 l.length
  simp [bat] at c0 c1 c2
  clear hcell
  go_enter Try.func52, Try.ntmps52
  go_wp2_with (go_at_call 13; refine (SameBytes_any _ _ _ _ _ _ _ l l rfl rfl hr0 hs).mono ?_; rw [show (l == l) = true by simp]; rintro e w' ⟨rfl, rfl⟩)
  go_ret
  exact ⟨rfl, rfl⟩
end Go.Proofs.Ytddejjmebokgiaa
