/- The walks of package sums, and of the document's sums. -/
import Derived.Test.YtknhfaplddgnlaaSumsPure
import Derived.Test.YtknhfaplddgnlaaLow
import Derived.Lib.SlBytesConst
namespace Go.Proofs.Ytknhfaplddgnlaa
open Go.RowKit
set_option maxHeartbeats 800000
set_option linter.unusedVariables false
set_option linter.unusedSimpArgs false

theorem turn_any (B : Nat) (w : World) (x : Nat) (hx : x < 4294967296) (hc : w.heap[B]? = some (.cells #[.int .u32 (x : Int)] 61 (0, 0))) :
    Calls Try.prog 59 #[.pointer (some ⟨B, 0, none⟩)] w fun e w' => e = .returned (.tuple #[]) ∧ w'.heap[B]? = some (.cells #[.int .u32 ((crcTurn x : Nat) : Int)] 61 (0, 0)) ∧ Below B w w' := by
  have hcell := cell_of_one hc
  have hfree := free_of_one hc
  have e3 := u32_xor (a := x / 2) (b := 2197175160) (by omega) (by omega)
  have e1 : bits .and .u32 (x : Int) 1 = ((x % 2 : Nat) : Int) := by
    have := bits_mask .u32 32 (by decide) (fun n h0 h1 => IntWalk.u32_in n (by omega)) 1 (by decide) (x : Int) (by omega) (by omega)
    simpa using this
  have E1 := hid e1
  have E3 := hid e3; clear e3 e1
  have hb := Below.refl B w
  have E : Hid (crcTurn x = if x % 2 = 1 then (x / 2) ^^^ 2197175160 else x / 2) := rfl
  go_enter Try.func59, Try.ntmps59
  go_wp2
  · go_end0
    have h : (bits .and .u32 (x : Int) 1 == 1) = true := by assumption
    rw [E1.out, beq_iff_eq] at h
    refine ⟨rfl, ?_, (hb.setCell (Nat.le_refl _) _).setCell (Nat.le_refl _) _⟩
    rw [one_setCell (one_setCell hc), E.out, if_pos (by omega), ← E3.out]
    rfl
  · go_end0
    have h : (bits .and .u32 (x : Int) 1 == 1) = false := by assumption
    rw [E1.out, beq_eq_false_iff_ne] at h
    refine ⟨rfl, ?_, (hb.setCell (Nat.le_refl _) _)⟩
    rw [one_setCell hc, E.out, if_neg (by omega)]
    rfl
theorem more_any (w : World) (s : Nat) (x : Int) (hx : x = (s : Int)) (hs : s < 4294967296) (a : Option Addr) (c N : Nat) (l : List UInt8) (hN : N = l.length) (hl : l.length ≤ 200000000000000) (hr : RdB w a l) :
    Calls Try.prog 51 #[.int .u32 x, .slice a N c] w fun e w' => e = .returned (.int .u32 (crcMore s l : Nat)) ∧ Below w.heap.size w w' := by
  subst hx hN
  have e0 := u32_xor (a := 4294967295) (b := s) (by omega) (by omega)
  rw [xor_max hs] at e0
  have E0 := hid e0; clear e0
  have hmf : ∀ (fn : Fn) (first cap : Array Value) (w : World), (Instr.makeFunc fn first cap).run Try.prog w = .ok (.func fn first cap) w := fun _ _ _ _ => rfl
  go_enter Try.func51, Try.ntmps51
  go_wp2
  go_loopw [14] (fun i wr => ∃ k : Nat, k ≤ l.length ∧ i = .int .i64 k ∧ wr.heap[w.heap.size]? = some (.cells #[.int .u32 (crcTo s l k : Nat)] 61 (0, 0)) ∧ Below w.heap.size w wr) (fun i _ => l.length - (intOf i).toNat)
  case atStart =>
    refine ⟨0, by omega, rfl, ?_, (Below.refl _ _).alloc (Nat.le_refl _) _⟩
    rw [heap_alloc_new, show crcTo s l 0 = 4294967295 - s from rfl, ← E0.out]
    rfl
  case round =>
    obtain ⟨k, hk, rfl, hB, hbl⟩ := hrel
    have hcell := cell_of_one hB
    have hfree := free_of_one hB
    have hx := crcTo_lt (s := s) l k
    by_cases hlt : k < l.length
    · obtain ⟨b, off, rfl, hc⟩ := hr.at_ (by intro e; simp [e] at hlt)
      have hck := cell_below hbl (hc k hlt)
      clear hc
      have hb8 := bat_lt l k
      have e1 := u32_xor (a := crcTo s l k) (b := (bat l k).toNat) (by omega) (by omega)
      have E1 := hid e1; clear e1
      go_wp2_with fail
      go_loopw [22] (fun i wr => ∃ j : Nat, j ≤ 8 ∧ i = .int .i64 j ∧ wr.heap[w.heap.size]? = some (.cells #[.int .u32 (crcTurns j (crcTo s l k ^^^ (bat l k).toNat) : Nat)] 61 (0, 0)) ∧ Below w.heap.size w wr) (fun i _ => 8 - (intOf i).toNat)
      case atStart =>
        refine ⟨0, by omega, rfl, ?_, hbl.setCell (Nat.le_refl _) _⟩
        rw [one_setCell hB, E1.out]; rfl
      case round =>
        obtain ⟨j, hj, rfl, hB', hbl'⟩ := hrel
        have hx' := crcTurns_lt (xor_lt32 hx (show (bat l k).toNat < 4294967296 by omega)) j
        have HB' := hid hB'
        clear hB'
        by_cases hj8 : j < 8
        · go_wp2_with (go_at_call 59; refine (turn_any _ _ _ hx' HB'.out).mono ?_; rintro e w1 ⟨rfl, h1, h2⟩; have H1 := hid h1; clear h1)
          go_roundw
          case rel => exact ⟨j + 1, by omega, by go_num, H1.out, hbl'.trans (h2.mono (Nat.le_refl _))⟩
          case measure => simp [intOf]; omega
        · go_wp2
          go_roundw
          case rel =>
            have : j = 8 := by omega
            subst this
            exact ⟨k + 1, by omega, by go_num, HB'.out, hbl'⟩
          case measure => simp [intOf]; omega
    · have hkl : k = l.length := by omega
      have e9 := u32_xor (a := 4294967295) (b := crcTo s l k) (by omega) (by omega)
      rw [xor_max hx] at e9
      have E9 := hid e9; clear e9
      have HK := hid hkl; clear hkl
      go_wp2
      go_ret
      refine ⟨?_, hbl⟩
      unfold crcMore
      rw [← HK.out, ← E9.out]
      rfl
theorem Crc_any (w : World) (a : Option Addr) (c N : Nat) (l : List UInt8) (hN : N = l.length) (hl : l.length ≤ 200000000000000) (hr : RdB w a l) :
    Calls Try.prog 34 #[.slice a N c] w fun e w' => e = .returned (.int .u32 (crcMore 0 l : Nat)) ∧ Below w.heap.size w w' := by
  subst hN
  go_enter Try.func34, Try.ntmps34
  go_wp2_with (go_at_call 51; refine (more_any _ 0 _ rfl (by omega) _ _ _ l rfl hl hr).mono ?_; rintro e w1 ⟨rfl, h1⟩)
  go_ret
  exact ⟨rfl, h1⟩

theorem refMore_any (w : World) (s : Nat) (x : Int) (hx : x = (s : Int)) (hs : s < 4294967296) (a : Option Addr) (c N : Nat) (l : List UInt8) (hN : N = l.length) (hl : l.length ≤ 200000000000000) (hr : RdB w a l) :
    Calls Try.prog 40 #[.int .u32 x, .slice a N c] w fun e w' => e = .returned (.int .u32 (crcMore s l : Nat)) ∧ w = w' := by
  subst hx hN
  go_enter Try.func40, Try.ntmps40
  go_wp2
  go_loop [5, 6] (fun r i => ∃ k : Nat, k ≤ l.length ∧ i = .int .i64 k ∧ r = .int .u32 (crcTo s l k : Nat)) (fun _ i => l.length - (intOf i).toNat)
  case atStart => exact ⟨0, by omega, rfl, by simp only [crcTo]; congr 1; omega⟩
  case round =>
    obtain ⟨k, hk, rfl, rfl⟩ := hrel
    have hx := crcTo_lt (s := s) l k
    by_cases hlt : k < l.length
    · obtain ⟨b, off, rfl, hc⟩ := hr.at_ (by intro e; simp [e] at hlt)
      have hck := hc k hlt
      clear hc
      have hb8 := bat_lt l k
      go_wp2_with fail
      go_loop [5, 7] (fun r i => ∃ j : Nat, j ≤ 8 ∧ i = .int .i64 j ∧ r = .int .u32 (refBits (crcTo s l k) (bat l k).toNat j : Nat)) (fun _ i => 8 - (intOf i).toNat)
      case atStart => exact ⟨0, by omega, rfl, rfl⟩
      case round =>
        obtain ⟨j, hj, rfl, rfl⟩ := hrel
        have hx' := refBits_lt hx (bat l k).toNat j
        by_cases hj8 : j < 8
        · have E : Hid (refBits (crcTo s l k) (bat l k).toNat (j + 1) = _) := refBits.eq_2 _ _ _
          generalize hr' : refBits (crcTo s l k) (bat l k).toNat j = r at *
          have HR := hid hr'; clear hr'
          have e3 := u32_xor (a := r / 2) (b := 2197175160) (by omega) (by omega)
          have E3 := hid e3; clear e3
          have q : (((bat l k).toNat : Int) / 2 ^ j).tmod 2 = (((bat l k).toNat / 2 ^ j % 2 : Nat) : Int) := by
            rw [Int.tmod_eq_emod_of_nonneg (Int.ediv_nonneg (by omega) (by exact_mod_cast Nat.zero_le _))]
            push_cast; rfl
          have Q := hid q; clear q
          go_wp2
          · go_round
            case rel =>
              refine ⟨j + 1, by omega, by go_num, ?_⟩
              have h : ((((bat l k).toNat : Int) / 2 ^ j).tmod 2 != (r : Int) % 2) = true := by assumption
              rw [Q.out, bne_iff_ne] at h
              rw [E.out, if_neg (by omega), ← E3.out]; rfl
            case measure => simp [intOf]; omega
          · go_round
            case rel =>
              refine ⟨j + 1, by omega, by go_num, ?_⟩
              have h : ((((bat l k).toNat : Int) / 2 ^ j).tmod 2 != (r : Int) % 2) = false := by assumption
              rw [Q.out, bne_eq_false_iff_eq] at h
              rw [E.out, if_pos (by omega)]; rfl
            case measure => simp [intOf]; omega
        · have hj' : j = 8 := by omega
          have HJ := hid hj'; clear hj'
          go_wp2
          go_round
          case rel =>
            have := HJ.out; subst this
            exact ⟨k + 1, by omega, by go_num, by rw [refBits_byte]; rfl⟩
          case measure => simp [intOf]; omega
    · have hkl : k = l.length := by omega
      have e9 : 4294967295 - (crcTo s l k : Int) = ((4294967295 - crcTo s l k : Nat) : Int) := by omega
      have E9 := hid e9; clear e9
      have HK := hid hkl; clear hkl
      go_wp2
      go_ret
      refine ⟨?_, rfl⟩
      unfold crcMore
      rw [← HK.out, ← E9.out]
      rfl

theorem crc9 : crcMore 0 [49, 50, 51, 52, 53, 54, 55, 56, 57] = 3808858755 := by decide +kernel
/-- A constant row of bytes behind its conversion. -/
theorem RdB.marked (w : World) (cs : Array Value) (t : TypeId) (p : Nat × Nat) (l : List UInt8) (h : cs.toList = B8s l) {g : Nat} (hg : g = w.heap.size) : RdB (w.alloc (.cells cs t p)) (some ⟨g, 0, none⟩) l := by
  subst hg
  intro _
  refine ⟨_, _, rfl, fun j u hu => ?_⟩
  rw [cell_of_row _ _ _ cs t p (heap_alloc_new w _)]
  rw [← h] at hu
  simpa using hu
theorem conv_const (w : World) (C : Array Value) (n c : Nat) (g : Nat) (hg : g = w.heap.size) : (convert 31 31 (.slice (some ⟨g, 0, none⟩) n c)).run Try.prog (w.alloc (.cells C 5)) = .ok (.slice (some ⟨g, 0, none⟩) n c) (w.alloc (.cells C 5 (C.size, C.size + 1))) := by
  subst hg
  exact Lib.run_convert_bytes_const w _ _ C n c Try.underlying31 Try.underlying5
theorem Pick_any (w : World) (x : Int) (n : Nat) (hx : -9223372036854775808 ≤ x ∧ x ≤ 9223372036854775807) (hn : 0 < n) (hn2 : n ≤ 200000000000000) :
    Calls Try.prog 27 #[.int .i64 x, .int .i64 (n : Int)] w fun e w' => (∃ p : Nat, p < n ∧ e = .returned (.int .i64 (p : Int))) ∧ w = w' := by
  have h1 := Int.lt_tmod_of_pos x (show (0 : Int) < (n : Int) by omega)
  have h2 := Int.tmod_lt_of_pos x (show (0 : Int) < (n : Int) by omega)
  have H1 := hid h1; have H2 := hid h2; clear h1 h2
  go_enter Try.func27, Try.ntmps27
  go_wp2
  · have h : x.tmod n < 0 := by assumption
    have h1 := H1.out
    have e : wrap64 (x.tmod n + n) = ((x.tmod n + n).toNat : Int) := by rw [IntWalk.wrap64_in _ (by omega)]; omega
    have E := hid e; clear e
    go_ret
    exact ⟨⟨(x.tmod n + n).toNat, by omega, by rw [E.out]; rfl⟩, rfl⟩
  · have h : 0 ≤ x.tmod n := by assumption
    have h2 := H2.out
    have e : x.tmod n = ((x.tmod n).toNat : Int) := by omega
    have E := hid e; clear e
    go_ret
    exact ⟨⟨(x.tmod n).toNat, by omega, by rw [← E.out]; rfl⟩, rfl⟩

end Go.Proofs.Ytknhfaplddgnlaa
