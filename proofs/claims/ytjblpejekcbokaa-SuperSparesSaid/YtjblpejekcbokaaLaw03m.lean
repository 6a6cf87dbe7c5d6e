/- What the walk of SuperSpares leans on. -/
import Derived.Test.YtjblpejekcbokaaLaw03j
import Derived.Test.YtjblpejekcbokaaApart3
namespace Go.Proofs.Ytjblpejekcbokaa
open Go.RowKit
set_option maxHeartbeats 3200000
set_option linter.unusedVariables false
set_option linter.unusedSimpArgs false
theorem PutInode_ok (w : World) (n : Ind) (a : Option Addr) (c : Nat) (hi : n.in_) (hr : RdX w a n.dir) (hok : okInd n = true) :
    Calls Try.prog 14 #[n.val a c] w fun e w' => ∃ A c', e = .returned (.tuple #[.slice A 64 c', .int .i64 0]) ∧ OwnB w.heap.size w' A c' (indB n) ∧ Below w.heap.size w w' := by
  have := PutInode_any w n a c hi hr
  rw [show putInd n = indB n from if_pos hok, show errInd n = 0 from if_pos hok, indB_length (okInd_len hok)] at this
  exact this
theorem GetInode_ok (w : World) (n : Ind) (a : Option Addr) (c : Nat) (hr : RdB w a (indB n)) (hok : okInd n = true) :
    Calls Try.prog 28 #[.slice a 64 c] w fun e w' => ∃ A c', e = .returned (.tuple #[n.val A c', .int .i64 0]) ∧ OwnX w.heap.size w' A c' n.dir ∧ Below w.heap.size w w' := by
  have hl := indB_length (okInd_len hok)
  have := GetInode_any w a c 64 (indB n) hl.symm (by rw [hl]; decide) hr
  rw [(got_indB n hok).1, (got_indB n hok).2] at this
  exact this
theorem PutNode_ok (w : World) (l : List Ext) (a : Option Addr) (c : Nat) (hr : RdX w a l) (ho : okX l) (hok : okL l = true) (hl : l.length ≤ 250) :
    Calls Try.prog 16 #[.slice a l.length c] w fun e w' => ∃ A c', e = .returned (.tuple #[.slice A 4096 c', .int .i64 0]) ∧ OwnB w.heap.size w' A c' (nodeB l) ∧ Below w.heap.size w w' := by
  have := PutNode_any w a c l.length l rfl (by omega) hr ho
  rw [show putL l = nodeB l from if_pos hok, show errL l = 0 from if_pos hok, nodeB_length l hl] at this
  exact this
theorem GetNode_ok (w : World) (l : List Ext) (a : Option Addr) (c : Nat) (hr : RdB w a (nodeB l)) (hok : okL l = true) (hl : l.length ≤ 250) :
    Calls Try.prog 26 #[.slice a 4096 c] w fun e w' => ∃ A c', e = .returned (.tuple #[.slice A l.length c', .int .i64 0]) ∧ OwnX w.heap.size w' A c' l ∧ Below w.heap.size w w' := by
  have h4 := nodeB_length l hl
  have := GetNode_any w a c 4096 (nodeB l) h4.symm (by rw [h4]; decide) hr
  rw [(got_nodeB l hok).1, (got_nodeB l hok).2] at this
  exact this
end Go.Proofs.Ytjblpejekcbokaa
