/- What the examples of the chapter super lean on: many extents, and where the sums stand. -/
import Derived.Test.YtjblpejekcbokaaLaw03f
namespace Go.Proofs.Ytjblpejekcbokaa
open Go.RowKit
set_option maxHeartbeats 3200000
set_option linter.unusedVariables false
set_option linter.unusedSimpArgs false

/-- So many extents, one behind the other. -/
def manyX (n : Nat) : List Ext := (List.range n).map fun (i : Nat) => ⟨2 * (i : Int), 1 + (i : Int), 1⟩
theorem manyX_length (n : Nat) : (manyX n).length = n := by simp [manyX]
theorem manyX_succ (n : Nat) : manyX (n + 1) = manyX n ++ [⟨2 * (n : Int), 1 + (n : Int), 1⟩] := by simp [manyX, List.range_succ]
theorem manyX_okX (n : Nat) (h : n ≤ 1000) : okX (manyX n) := by
  intro k hk
  rw [manyX_length] at hk
  have : xat (manyX n) k = ⟨2 * (k : Int), 1 + (k : Int), 1⟩ := by simp [xat, manyX, List.getD_eq_getElem?_getD, List.getElem?_map, List.getElem?_range hk]
  rw [this]
  simp only [Ext.ok]
  omega
set_option maxRecDepth 100000 in
theorem many_any (w : World) (n : Nat) (hn : n ≤ 1000) :
    Calls Try.prog 27 #[.int .i64 (n : Int)] w fun e w' => ∃ A c', e = .returned (.slice A n c') ∧ OwnX w.heap.size w' A c' (manyX n) ∧ Below w.heap.size w w' := by
  go_enter Try.func27, Try.ntmps27
  go_wp2_with fail
  go_loopw [3, 4] (fun x i wr => ∃ (k : Nat) (A : Option Addr) (c' : Nat), k ≤ n ∧ i = .int .i64 k ∧ x = .slice A k c' ∧ OwnX w.heap.size wr A c' (manyX k) ∧ Below w.heap.size w wr) (fun _ i _ => n - (intOf i).toNat)
  case atStart => exact ⟨0, none, 0, by omega, rfl, rfl, OwnX.nil _ _, Below.refl _ _⟩
  case round =>
    obtain ⟨k, A, c', hk, rfl, rfl, hO, hbl⟩ := hrel
    by_cases hlt : k < n
    · go_wp2_with (at_builtin; refine app_ext rfl (.tmp 10) (.tmp 16) rfl w.heap.size A c' k (manyX k) (manyX_length k).symm rfl (hO.below ((Below.refl _ _).alloc (Nat.le_refl _) _)) (some ⟨_, 0, none⟩) 1 1 [⟨2 * (k : Int), 1 + (k : Int), 1⟩] rfl rfl (RdX.lit _ _ _ _ (by simp [extCells, Ext.cells]) rfl) (k + 1) (by rw [manyX_length]; rfl) (by rw [manyX_length]; simp; omega) w (hbl.alloc hbl.size _) (by have := hbl.size; simp; omega) ?_; intro A1 c1 w8 h8 b8)
      go_roundw
      case rel => exact ⟨k + 1, A1, c1, by omega, by go_num, rfl, by rw [manyX_succ]; exact h8, b8⟩
      case measure => simp [intOf]; omega
    · obtain rfl : k = n := by omega
      go_wp2
      go_ret
      exact ⟨A, c', rfl, hO, hbl⟩
theorem many_lit (w : World) (n : Nat) (x : Int) (hx : x = (n : Int)) (hn : n ≤ 1000) :
    Calls Try.prog 27 #[.int .i64 x] w fun e w' => ∃ A c', e = .returned (.slice A n c') ∧ OwnX w.heap.size w' A c' (manyX n) ∧ Below w.heap.size w w' := by
  subst hx
  exact many_any w n hn
set_option maxRecDepth 100000 in
theorem at_any (w : World) (a : Option Addr) (c N : Nat) (l : List UInt8) (hN : N = l.length) (hl : l.length ≤ 10000) (hr : RdB w a l) (p : Nat) (x : Int) (hx : x = (p : Int)) (hp : p + 4 ≤ l.length) :
    Calls Try.prog 54 #[.slice a N c, .int .i64 x] w fun e w' => e = .returned (.int .u32 (numV l p 4 : Nat)) ∧ ∃ n, w' = w.drewN n := by
  subst hN hx
  obtain ⟨B, off, rfl, hcs⟩ := hr.at_ (by intro e; rw [e] at hp; simp at hp)
  have v0 := hcs p (by omega)
  have v1 := hcs (p + 1) (by omega)
  have v2 := hcs (p + 2) (by omega)
  have v3 := hcs (p + 3) (by omega)
  have h0 := bat_lt l p; have h1 := bat_lt l (p + 1); have h2 := bat_lt l (p + 2); have h3 := bat_lt l (p + 3)
  have hv : numV l p 4 = (((bat l p).toNat * 256 + (bat l (p + 1)).toNat) * 256 + (bat l (p + 2)).toNat) * 256 + (bat l (p + 3)).toNat := by
    rw [numV, if_pos (by simp [numOk]; omega)]
    simp [numTo]
  have HV := hid hv
  clear hv hcs
  generalize numV l p 4 = V at HV ⊢
  generalize (bat l p).toNat = b0 at *
  generalize (bat l (p + 1)).toNat = b1 at *
  generalize (bat l (p + 2)).toNat = b2 at *
  generalize (bat l (p + 3)).toNat = b3 at *
  have q0 : (0 : Int) ≤ (p : Int) := by omega
  have q1 : (p : Int) + 4 ≤ (l.length : Int) := by omega
  have hw1 : IntKind.i64.wrap ((p : Int) + 1) = (p : Int) + 1 := IntWalk.i64_in _ (by omega)
  have hw2 : IntKind.i64.wrap ((p : Int) + 2) = (p : Int) + 2 := IntWalk.i64_in _ (by omega)
  have hw3 : IntKind.i64.wrap ((p : Int) + 3) = (p : Int) + 3 := IntWalk.i64_in _ (by omega)
  have i1 : 0 ≤ (p : Int) + 1 := by omega
  have i2 : 0 ≤ (p : Int) + 2 := by omega
  have i3 : 0 ≤ (p : Int) + 3 := by omega
  have t1 : ((p : Int) + 1).toNat = p + 1 := by omega
  have t2 : ((p : Int) + 2).toNat = p + 2 := by omega
  have t3 : ((p : Int) + 3).toNat = p + 3 := by omega
  have l0 : (p : Int) < (l.length : Int) := by omega
  have l1 : (p : Int) + 1 < (l.length : Int) := by omega
  have l2 : (p : Int) + 2 < (l.length : Int) := by omega
  have l3 : (p : Int) + 3 < (l.length : Int) := by omega
  go_enter Try.func54, Try.ntmps54
  go_wp2_with fail
  go_quiet (fail)
  go_wp2
  go_ret
  refine ⟨?_, nq, rfl⟩
  have e1 : bits .or .u32 ((b0 : Int) * 16777216) ((b1 : Int) * 65536) = ((b0 : Int) * 256 + (b1 : Int)) * 65536 := by
    rw [bits_join .u32 32 (by decide) (fun n h0 h1 => IntWalk.u32_in n (by omega)) 24 ((b0 : Int) * 16777216) ((b1 : Int) * 65536) (by omega) (by omega) (by omega) (by omega) (by omega) (by omega)]
    omega
  have e2 : bits .or .u32 (((b0 : Int) * 256 + (b1 : Int)) * 65536) ((b2 : Int) * 256) = (((b0 : Int) * 256 + (b1 : Int)) * 256 + (b2 : Int)) * 256 := by
    rw [bits_join .u32 32 (by decide) (fun n h0 h1 => IntWalk.u32_in n (by omega)) 16 (((b0 : Int) * 256 + (b1 : Int)) * 65536) ((b2 : Int) * 256) (by omega) (by omega) (by omega) (by omega) (by omega) (by omega)]
    omega
  have e3 : bits .or .u32 ((((b0 : Int) * 256 + (b1 : Int)) * 256 + (b2 : Int)) * 256) (b3 : Int) = (V : Int) := by
    rw [bits_join .u32 32 (by decide) (fun n h0 h1 => IntWalk.u32_in n (by omega)) 8 ((((b0 : Int) * 256 + (b1 : Int)) * 256 + (b2 : Int)) * 256) (b3 : Int) (by omega) (by omega) (by omega) (by omega) (by omega) (by omega)]
    have := HV.out
    omega
  show Ending.returned (Value.int .u32 (bits .or .u32 (bits .or .u32 (bits .or .u32 ((b0 : Int) * 16777216) ((b1 : Int) * 65536)) ((b2 : Int) * 256)) (b3 : Int))) = _
  rw [e1, e2, e3]
end Go.Proofs.Ytjblpejekcbokaa
