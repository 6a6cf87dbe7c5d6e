/- What the walk of SuperNumbers leans on. -/
import Derived.Test.YtjblpejekcbokaaLaw03i
namespace Go.Proofs.Ytjblpejekcbokaa
open Go.RowKit
set_option maxHeartbeats 16000000
set_option linter.unusedVariables false
set_option linter.unusedSimpArgs false

def sL : Nat → Sup
  | 0 => ⟨63, 1, 1, 0⟩
  | 1 => ⟨513, 1, 1, 0⟩
  | 2 => ⟨64, 0, 1, 0⟩
  | 3 => ⟨64, 8388609, 1, 0⟩
  | 4 => ⟨64, 1, 0, 0⟩
  | 5 => ⟨64, 1, 549755813889, 0⟩
  | 6 => ⟨64, 1, 1, 512⟩
  | 7 => ⟨64, 1, 1, -1⟩
  | _ => ⟨0, 0, 0, 0⟩
theorem sL_no : ∀ k, k < 8 → errS (sL k) = 2 := by decide
def iL : Nat → Ind
  | 0 => ⟨0, 0, 1, 0, manyX 0⟩
  | 1 => ⟨0, 1, 0, 0, manyX 0⟩
  | 2 => ⟨0, 0, 0, 1, manyX 0⟩
  | 3 => ⟨0, 0, 0, 0, manyX 1⟩
  | 4 => ⟨3, 0, 0, 0, manyX 0⟩
  | 5 => ⟨1, 101, 0, 0, manyX 0⟩
  | 6 => ⟨1, -1, 0, 0, manyX 0⟩
  | 7 => ⟨1, 0, 131073, 0, manyX 0⟩
  | 8 => ⟨1, 0, 0, 512, manyX 0⟩
  | 9 => ⟨1, 0, 0, 0, manyX 4⟩
  | _ => ⟨0, 0, 0, 0, []⟩
theorem iL_no : ∀ k, k < 10 → errInd (iL k) = 2 := by decide
theorem iL_in (k : Nat) (hk : k < 10) : (iL k).in_ := by
  rcases k with _ | _ | _ | _ | _ | _ | _ | _ | _ | _ | k
  · exact ⟨by decide, by decide, by decide, by decide, by decide, manyX_okX _ (by decide)⟩
  · exact ⟨by decide, by decide, by decide, by decide, by decide, manyX_okX _ (by decide)⟩
  · exact ⟨by decide, by decide, by decide, by decide, by decide, manyX_okX _ (by decide)⟩
  · exact ⟨by decide, by decide, by decide, by decide, by decide, manyX_okX _ (by decide)⟩
  · exact ⟨by decide, by decide, by decide, by decide, by decide, manyX_okX _ (by decide)⟩
  · exact ⟨by decide, by decide, by decide, by decide, by decide, manyX_okX _ (by decide)⟩
  · exact ⟨by decide, by decide, by decide, by decide, by decide, manyX_okX _ (by decide)⟩
  · exact ⟨by decide, by decide, by decide, by decide, by decide, manyX_okX _ (by decide)⟩
  · exact ⟨by decide, by decide, by decide, by decide, by decide, manyX_okX _ (by decide)⟩
  · exact ⟨by decide, by decide, by decide, by decide, by decide, manyX_okX _ (by decide)⟩
  · omega
def iA (A1 A4 : Option Addr) (k : Nat) : Option Addr := if k = 3 then A1 else if k = 9 then A4 else none
def iC (c1 c4 : Nat) (k : Nat) : Nat := if k = 3 then c1 else if k = 9 then c4 else 0
theorem iL_rd (w : World) (A1 A4 : Option Addr) (h1 : RdX w A1 (manyX 1)) (h4 : RdX w A4 (manyX 4)) (k : Nat) (hk : k < 10) : RdX w (iA A1 A4 k) (iL k).dir := by
  rcases k with _ | _ | _ | _ | _ | _ | _ | _ | _ | _ | k
  · exact RdX.nil _ _
  · exact RdX.nil _ _
  · exact RdX.nil _ _
  · exact h1
  · exact RdX.nil _ _
  · exact RdX.nil _ _
  · exact RdX.nil _ _
  · exact RdX.nil _ _
  · exact RdX.nil _ _
  · exact h4
  · omega
theorem row1 {w : World} {g : Nat} {t : TypeId} (h : w.heap[g]? = some (.cells #[.int .i64 (63), .int .i64 (1), .int .i64 (1), .int .i64 (0), .int .i64 (513), .int .i64 (1), .int .i64 (1), .int .i64 (0), .int .i64 (64), .int .i64 (0), .int .i64 (1), .int .i64 (0), .int .i64 (64), .int .i64 (8388609), .int .i64 (1), .int .i64 (0), .int .i64 (64), .int .i64 (1), .int .i64 (0), .int .i64 (0), .int .i64 (64), .int .i64 (1), .int .i64 (549755813889), .int .i64 (0), .int .i64 (64), .int .i64 (1), .int .i64 (1), .int .i64 (512), .int .i64 (64), .int .i64 (1), .int .i64 (1), .int .i64 (-1)] t (0, 0))) (k : Nat) (hk : k < 8) :
    w.cell? ⟨g, k * 4, none⟩ = some (.int .i64 (sL k).bl) ∧ w.cell? ⟨g, k * 4 + 1, none⟩ = some (.int .i64 (sL k).ep) ∧ w.cell? ⟨g, k * 4 + 2, none⟩ = some (.int .i64 (sL k).sq) ∧ w.cell? ⟨g, k * 4 + 3, none⟩ = some (.int .i64 (sL k).tl) := by
  refine ⟨?_, ?_, ?_, ?_⟩ <;> rw [cell_of_row _ _ _ _ _ _ h] <;> (rcases k with _ | _ | _ | _ | _ | _ | _ | _ | k <;> first | rfl | omega)
theorem row2 {w : World} {g : Nat} {t : TypeId} {A1 A4 : Option Addr} {c1 c4 : Nat} (h : w.heap[g]? = some (.cells #[.int .u8 0, .int .i64 (0), .int .i64 (1), .slice none 0 0, .int .i64 (0), .int .u8 0, .int .i64 (1), .int .i64 (0), .slice none 0 0, .int .i64 (0), .int .u8 0, .int .i64 (0), .int .i64 (0), .slice none 0 0, .int .i64 (1), .int .u8 0, .int .i64 (0), .int .i64 (0), .slice A1 1 c1, .int .i64 (0), .int .u8 3, .int .i64 (0), .int .i64 (0), .slice none 0 0, .int .i64 (0), .int .u8 1, .int .i64 (101), .int .i64 (0), .slice none 0 0, .int .i64 (0), .int .u8 1, .int .i64 (-1), .int .i64 (0), .slice none 0 0, .int .i64 (0), .int .u8 1, .int .i64 (0), .int .i64 (131073), .slice none 0 0, .int .i64 (0), .int .u8 1, .int .i64 (0), .int .i64 (0), .slice none 0 0, .int .i64 (512), .int .u8 1, .int .i64 (0), .int .i64 (0), .slice A4 4 c4, .int .i64 (0)] t (0, 0))) (k : Nat) (hk : k < 10) :
    w.cell? ⟨g, k * 5, none⟩ = some (.int .u8 ((iL k).k : Int)) ∧ w.cell? ⟨g, k * 5 + 1, none⟩ = some (.int .i64 (iL k).ln) ∧ w.cell? ⟨g, k * 5 + 2, none⟩ = some (.int .i64 (iL k).sz) ∧ w.cell? ⟨g, k * 5 + 3, none⟩ = some (.slice (iA A1 A4 k) (iL k).dir.length (iC c1 c4 k)) ∧ w.cell? ⟨g, k * 5 + 4, none⟩ = some (.int .i64 (iL k).nd) := by
  refine ⟨?_, ?_, ?_, ?_, ?_⟩ <;> rw [cell_of_row _ _ _ _ _ _ h] <;> (rcases k with _ | _ | _ | _ | _ | _ | _ | _ | _ | _ | k <;> first | rfl | omega)
def s2 : Sup := ⟨512, 8388608, 549755813888, 511⟩
theorem PutSuper_s2 (w : World) : Calls Try.prog 12 #[.agg #[.int .i64 512, .int .i64 8388608, .int .i64 549755813888, .int .i64 511]] w fun e w' => (∃ A c', e = .returned (.tuple #[.slice A 4096 c', .int .i64 0])) ∧ Below w.heap.size w w' := by
  have := PutSuper_any w s2
  rw [show putS s2 = supB s2 from if_pos (by decide), show errS s2 = 0 from if_pos (by decide), supB_length] at this
  exact this.mono fun e w' ⟨A, c', h1, _, h3⟩ => ⟨⟨A, c', h1⟩, h3⟩
theorem PutInode_0 (w : World) : Calls Try.prog 14 #[.agg #[.int .u8 0, .int .i64 0, .int .i64 0, .slice none 0 0, .int .i64 0]] w fun e w' => ∃ A c', e = .returned (.tuple #[.slice A 64 c', .int .i64 0]) ∧ OwnB w.heap.size w' A c' (zeros 64) ∧ Below w.heap.size w w' := by
  have := PutInode_any w ⟨0, 0, 0, 0, []⟩ none 0 (by refine ⟨by decide, by decide, by decide, by decide, by decide, fun k hk => absurd hk (Nat.not_lt_zero _)⟩) (RdX.nil _ _)
  rw [show putInd ⟨0, 0, 0, 0, []⟩ = zeros 64 by decide, show errInd ⟨0, 0, 0, 0, []⟩ = 0 by decide, zeros_length] at this
  exact this
theorem GetInode_0 (w : World) (a : Option Addr) (hr : RdB w a (zeros 64)) : Calls Try.prog 28 #[.slice a 64 64] w fun e w' => ∃ A c', e = .returned (.tuple #[.agg #[.int .u8 0, .int .i64 0, .int .i64 0, .slice A 0 c', .int .i64 0], .int .i64 0]) ∧ Below w.heap.size w w' := by
  have := GetInode_any w a 64 64 (zeros 64) (by decide) (by decide) hr
  have e : gotInd (zeros 64) = ⟨0, 0, 0, 0, []⟩ ∧ gerrInd (zeros 64) = 0 := got_indB ⟨0, 0, 0, 0, []⟩ (by decide)
  rw [e.1, e.2] at this
  exact this.mono fun e w' ⟨A, c', h1, _, h3⟩ => ⟨A, c', h1, h3⟩
theorem supZ : gerrS (zeros 4096) = 30 := by
  have : okS (getS (zeros 4096)) = false := by decide +kernel
  simp [gerrS, isS, this]
theorem nodeZ (w : World) : Calls Try.prog 16 #[.slice none 0 0] w fun e w' => ∃ A c', e = .returned (.tuple #[.slice A 4096 c', .int .i64 0]) ∧ OwnB w.heap.size w' A c' (nodeB []) ∧ Below w.heap.size w w' := by
  have := PutNode_any w none 0 0 [] rfl (by decide) (RdX.nil _ _) (fun k hk => absurd hk (Nat.not_lt_zero _))
  rw [show putL [] = nodeB [] from if_pos (by decide), show errL [] = 0 from if_pos (by decide), nodeB_length _ (by decide)] at this
  exact this
theorem ok250 : okL (manyX 250) = true := by decide +kernel
theorem right256 : rightX (manyX 256) = true := by decide +kernel
theorem PutNode_250 (w : World) (a : Option Addr) (c : Nat) (hr : RdX w a (manyX 250)) : Calls Try.prog 16 #[.slice a 250 c] w fun e w' => ∃ A c', e = .returned (.tuple #[.slice A 4096 c', .int .i64 0]) ∧ OwnB w.heap.size w' A c' (nodeB (manyX 250)) ∧ Below w.heap.size w w' := by
  have := PutNode_any w a c 250 (manyX 250) (manyX_length _).symm (by rw [manyX_length]; decide) hr (manyX_okX _ (by decide))
  rw [show putL (manyX 250) = nodeB (manyX 250) from if_pos ok250, show errL (manyX 250) = 0 from if_pos ok250, nodeB_length _ (by rw [manyX_length]; decide)] at this
  exact this
theorem PutNode_251 (w : World) (a : Option Addr) (c : Nat) (hr : RdX w a (manyX 251)) : Calls Try.prog 16 #[.slice a 251 c] w fun e w' => (∃ A c', e = .returned (.tuple #[.slice A 0 c', .int .i64 2])) ∧ Below w.heap.size w w' := by
  have := PutNode_any w a c 251 (manyX 251) (manyX_length _).symm (by rw [manyX_length]; decide) hr (manyX_okX _ (by decide))
  have e : okL (manyX 251) = false := by simp [okL, manyX_length]
  rw [show putL (manyX 251) = [] by rw [putL, e]; rfl, show errL (manyX 251) = 2 by rw [errL, e]; rfl] at this
  exact this.mono fun e w' ⟨A, c', h1, _, h3⟩ => ⟨⟨A, c', h1⟩, h3⟩
theorem GetNode_250 (w : World) (a : Option Addr) (c : Nat) (hr : RdB w a (nodeB (manyX 250))) : Calls Try.prog 26 #[.slice a 4096 c] w fun e w' => (∃ A c', e = .returned (.tuple #[.slice A 250 c', .int .i64 0])) ∧ Below w.heap.size w w' := by
  have hl := nodeB_length (manyX 250) (by rw [manyX_length]; decide)
  have := GetNode_any w a c 4096 (nodeB (manyX 250)) hl.symm (by rw [hl]; decide) hr
  rw [(got_nodeB _ ok250).1, (got_nodeB _ ok250).2, manyX_length] at this
  exact this.mono fun e w' ⟨A, c', h1, _, h3⟩ => ⟨⟨A, c', h1⟩, h3⟩
theorem GetNode_cut (w : World) (a : Option Addr) (c : Nat) (hr : RdB w a (nodeB (manyX 250))) : Calls Try.prog 26 #[.slice a 4095 c] w fun e w' => (∃ A c', e = .returned (.tuple #[.slice A 0 c', .int .i64 30])) ∧ Below w.heap.size w w' := by
  have hl := nodeB_length (manyX 250) (by rw [manyX_length]; decide)
  have hl2 : ((nodeB (manyX 250)).take 4095).length = 4095 := by rw [List.length_take, hl]; decide
  exact (GetNode_none w a c 4095 _ hl2.symm (by rw [hl2]; decide) (hr.take 4095) ((node_no (not_node_len (by rw [hl2]; decide))).2)).mono fun e w' ⟨A, c', h1, h3⟩ => ⟨⟨A, c', h1⟩, h3⟩
theorem Right_lit (w : World) (a : Option Addr) (c N : Nat) (l : List Ext) (r : Bool) (hN : N = l.length) (hl : l.length ≤ 1000) (hr : RdX w a l) (ho : okX l) (h : rightX l = r) :
    Calls Try.prog 19 #[.slice a N c] w fun e w' => e = .returned (.bool r) ∧ Below w.heap.size w w' := by
  have := Right_any w a c N l hN (by omega) hr ho
  rw [h] at this
  exact this
theorem okX1 (x : Ext) (h : x.ok) : okX [x] := by
  intro k hk
  obtain rfl : k = 0 := by simp at hk; omega
  exact h
theorem okX2 (x y : Ext) (h : x.ok) (h2 : y.ok) : okX [x, y] := by
  intro k hk
  rcases k with _ | _ | k
  · exact h
  · exact h2
  · simp at hk; omega
theorem sb8 : (supB s0).take 8 = magicB := by decide +kernel
theorem sb15 : (bat (supB s0) 15).toNat = 64 := by decide +kernel
theorem sb23 : (bat (supB s0) 23).toNat = 1 := by decide +kernel
theorem sb31 : (bat (supB s0) 31).toNat = 1 := by decide +kernel
theorem sb39 : (bat (supB s0) 39).toNat = 0 := by decide +kernel
theorem nb1 : (bat (nodeB []) 1).toNat = 0 := by rw [nodeB]; decide +kernel
end Go.Proofs.Ytjblpejekcbokaa
