/- The walks of package octets, and the plain functions that they compute. -/
import Derived.Test.YtknhfaplddgnlaaBase
namespace Go.Proofs.Ytknhfaplddgnlaa
open Go.RowKit
set_option maxHeartbeats 800000
set_option linter.unusedVariables false
set_option linter.unusedSimpArgs false

/-- The number that n bytes from a place are, highest first. -/
def numTo (l : List UInt8) (p : Nat) : Nat → Nat
  | 0 => 0
  | n + 1 => numTo l p n * 256 + (bat l (p + n)).toNat
def numOk (l : List UInt8) (p : Int) (n : Nat) : Bool := decide (0 ≤ p ∧ p ≤ (l.length : Int) - n)
def numV (l : List UInt8) (p : Int) (n : Nat) : Nat := if numOk l p n then numTo l p.toNat n else 0
theorem numTo_lt (l : List UInt8) (p : Nat) : ∀ n, numTo l p n < 256 ^ n
  | 0 => by simp [numTo]
  | n + 1 => by
    have := numTo_lt l p n
    have hb := bat_lt l (p + n)
    simp only [numTo, Nat.pow_succ]
    omega
theorem numV_lt (l : List UInt8) (p : Int) (n : Nat) : numV l p n < 256 ^ n := by
  unfold numV; split
  · exact numTo_lt l _ n
  · exact Nat.pow_pos (by decide)
theorem u64_or (x y : Nat) (hx : x * 256 < 18446744073709551616) (hy : y < 256) : bits .or .u64 ((x : Int) * 256) (y : Int) = ((x * 256 + y : Nat) : Int) := by
  rw [bits_join .u64 64 (by decide) (fun n h0 h1 => IntWalk.u64_in n (by omega)) 8 ((x : Int) * 256) (y : Int) (by omega) (by omega) (by omega) (by omega) (by omega) (by omega)]
  omega

theorem number_any (w : World) (a : Option Addr) (c N : Nat) (l : List UInt8) (hN : N = l.length) (p : Int) (n : Nat) (hl : l.length ≤ 200000000000000) (hr : RdB w a l) (hp : -9223372036854775808 ≤ p ∧ p ≤ 9223372036854775807) (hn : n ≤ 8) :
    Calls Try.prog 61 #[.slice a N c, .int .i64 p, .int .i64 (n : Int)] w fun e w' => e = .returned (.tuple #[.int .u64 (numV l p n : Nat), .bool (numOk l p n)]) ∧ w = w' := by
  subst hN
  by_cases h0 : p < 0
  · have E := hid (show numV l p n = 0 ∧ numOk l p n = false by simp [numV, numOk]; omega)
    go_enter Try.func61, Try.ntmps61
    go_wp2
    go_ret2
    exact ⟨by rw [E.out.1, E.out.2]; rfl, rfl⟩
  · by_cases h1 : (l.length : Int) - n < p
    · have E := hid (show numV l p n = 0 ∧ numOk l p n = false by simp [numV, numOk]; omega)
      go_enter Try.func61, Try.ntmps61
      go_wp2
      go_ret2
      exact ⟨by rw [E.out.1, E.out.2]; rfl, rfl⟩
    · obtain ⟨q, rfl⟩ := Int.eq_ofNat_of_zero_le (Int.not_lt.1 h0)
      have E := hid (show numV l q n = numTo l q n ∧ numOk l q n = true by simp [numV, numOk]; omega)
      have hq : q + n ≤ l.length := by omega
      go_enter Try.func61, Try.ntmps61
      go_wp2
      go_loop [8, 21] (fun v i => ∃ k : Nat, k ≤ n ∧ i = .int .i64 k ∧ v = .int .u64 (numTo l q k : Nat)) (fun _ i => n - (intOf i).toNat)
      case atStart => exact ⟨0, by omega, rfl, rfl⟩
      case round =>
        obtain ⟨k, hk, rfl, rfl⟩ := hrel
        by_cases hlt : k < n
        · obtain ⟨b, off, rfl, hc⟩ := hr.at_ (by intro e; simp [e] at hq; omega)
          have hck := hc (q + k) (by omega)
          clear hc
          have hb8 := bat_lt l (q + k)
          have hx := numTo_lt l q k
          have hx2 : numTo l q k * 256 < 18446744073709551616 := by
            have h1 : (256 : Nat) ^ k ≤ 256 ^ 7 := Nat.pow_le_pow_right (by decide) (by omega)
            have h2 : (256 : Nat) ^ 7 = 72057594037927936 := by decide
            omega
          have e1 := u64_or (numTo l q k) (bat l (q + k)).toNat hx2 hb8
          have E1 := hid e1; clear e1 hx
          go_wp2
          go_round
          case rel => exact ⟨k + 1, by omega, by go_num, by rw [E1.out]; rfl⟩
          case measure => simp [intOf]; omega
        · have hkn : k = n := by omega
          have HK := hid hkn; clear hkn
          go_wp2
          go_ret2
          exact ⟨by rw [E.out.1, E.out.2, ← HK.out]; rfl, rfl⟩

theorem U16_any (w : World) (a : Option Addr) (c N : Nat) (l : List UInt8) (hN : N = l.length) (p : Int) (hl : l.length ≤ 200000000000000) (hr : RdB w a l) (hp : -9223372036854775808 ≤ p ∧ p ≤ 9223372036854775807) :
    Calls Try.prog 55 #[.slice a N c, .int .i64 p] w fun e w' => e = .returned (.tuple #[.int .u16 (numV l p 2 : Nat), .bool (numOk l p 2)]) ∧ w = w' := by
  subst hN
  have hx : numV l p 2 < 65536 := numV_lt l p 2
  go_enter Try.func55, Try.ntmps55
  go_wp2_with (go_at_call 61; refine (number_any _ _ _ _ l rfl p 2 hl hr hp (by omega)).mono ?_; rintro e w' ⟨rfl, rfl⟩)
  go_ret2
  exact ⟨rfl, rfl⟩
theorem U64_any (w : World) (a : Option Addr) (c N : Nat) (l : List UInt8) (hN : N = l.length) (p : Int) (hl : l.length ≤ 200000000000000) (hr : RdB w a l) (hp : -9223372036854775808 ≤ p ∧ p ≤ 9223372036854775807) :
    Calls Try.prog 53 #[.slice a N c, .int .i64 p] w fun e w' => e = .returned (.tuple #[.int .u64 (numV l p 8 : Nat), .bool (numOk l p 8)]) ∧ w = w' := by
  subst hN
  go_enter Try.func53, Try.ntmps53
  go_wp2_with (go_at_call 61; refine (number_any _ _ _ _ l rfl p 8 hl hr hp (by omega)).mono ?_; rintro e w' ⟨rfl, rfl⟩)
  go_ret2
  exact ⟨rfl, rfl⟩

/-- The last n bytes of a number, highest first; the first i of them. -/
def beTo (v n i : Nat) : List UInt8 := (List.range i).map fun j => byteOf (v / 256 ^ (n - 1 - j))
def be (v n : Nat) : List UInt8 := beTo v n n
theorem beTo_length (v n i : Nat) : (beTo v n i).length = i := by simp [beTo]
theorem be_length (v n : Nat) : (be v n).length = n := beTo_length v n n
theorem beTo_succ (v n i : Nat) : beTo v n (i + 1) = beTo v n i ++ [byteOf (v / 256 ^ (n - 1 - i))] := by simp [beTo, List.range_succ]
theorem shr_byte (v k : Nat) : (v : Int) / 2 ^ (8 * k) % 256 = ((byteOf (v / 256 ^ k)).toNat : Int) := by
  rw [byteOf, UInt8.toNat_ofNat', show (2 : Int) ^ (8 * k) = ((256 ^ k : Nat) : Int) by rw [Int.pow_mul]; simp]
  omega

theorem add_any (w : World) (a : Option Addr) (c N : Nat) (l : List UInt8) (hN : N = l.length) (v0 n : Nat) (hl : l.length ≤ 199999999999000) (hr : RdB w a l) (hn : n ≤ 8) (hv : v0 < 18446744073709551616) :
    Calls Try.prog 50 #[.slice a N c, .int .u64 (v0 : Int), .int .i64 (n : Int)] w fun e w' =>
      ∃ A c', e = .returned (.slice A (N + n) c') ∧ OwnB w.heap.size w' A c' (l ++ be v0 n) ∧ Below w.heap.size w w' := by
  subst hN
  have hmk : ∀ W : World, (Instr.makeSlice 31 (.int .i64 (l.length : Int)) (.int .i64 ((l.length : Int) + (n : Int)))).run Try.prog W = .ok (.slice (some ⟨W.heap.size, 0, none⟩) l.length (l.length + n)) (W.alloc (.cells (madeCells #[.int .u8 0] (l.length + n)) 5)) := by
    intro W
    obtain ⟨i0, hi, hz0, hz1, hz2⟩ := info_parts info_u8
    have := run_make (P := Try.prog) W 31 5 i0 (.int .u8 0) Try.underlying31 hi hz0 .i64 .i64 (l.length : Int) ((l.length : Int) + n) (by omega) (by omega) (by rw [hz2]; omega) (by omega)
    rw [this, hz1]
    simp only [Int.toNat_natCast, Nat.mul_one]
    have h : ((l.length : Int) + (n : Int)).toNat = l.length + n := by omega
    rw [h]; rfl
  go_enter Try.func50, Try.ntmps50
  go_wp2_with (with_reducible refine copy_bytes rfl (.tmp 16) (.tmp 17) rfl w.heap.size 0 l.length (l.length + n) rfl a l.length c l rfl rfl (hr.alloc _) (madeCells #[.int .u8 0] (l.length + n)).toList (by simpa using heap_alloc_new w _) (by simp [size_madeCells]) w.heap.size w ((Below.refl _ _).alloc (Nat.le_refl _) _) (Nat.le_refl _) ?_; intro w1 hg hb1 hs1 _)
  have ho : OwnB w.heap.size w1 (some ⟨w.heap.size, 0, none⟩) (l.length + n) l := by
    refine ⟨by simp [B8s], .inr ⟨w.heap.size, _, _, rfl, Nat.le_refl _, hg.out, by omega, by simp only [maxLen]; omega, ?_, ?_⟩⟩
    · simp [splice, size_madeCells, B8s]
    · simp [splice, B8s]
  go_loopw [7, 20] (fun v i wr => ∃ (k : Nat) (A : Option Addr) (c' : Nat), k ≤ n ∧ i = .int .i64 k ∧ v = .slice A (l.length + k) c' ∧ OwnB w.heap.size wr A c' (l ++ beTo v0 n k) ∧ Below w.heap.size w wr) (fun _ i _ => n - (intOf i).toNat)
  case atStart => exact ⟨0, some ⟨w.heap.size, 0, none⟩, l.length + n, by omega, rfl, rfl, by simpa [beTo] using ho, hb1⟩
  case round =>
    obtain ⟨k, A, c', hk, rfl, rfl, ho', hb'⟩ := hrel
    have HO' := hid ho'; clear ho' ho hs1 hmk
    have hlk : (l ++ beTo v0 n k).length = l.length + k := by simp [beTo_length]
    have HLK := hid hlk; clear hlk
    by_cases hlt : k < n
    · have e1 := shr_byte v0 (n - 1 - k)
      have hbd : (l ++ beTo v0 n k).length + [byteOf (v0 / 256 ^ (n - 1 - k))].length ≤ 200000000000000 := by rw [HLK.out]; simp; omega
      have HBD := hid hbd; clear hbd
      have hsz := hb'.size
      go_wp2_with (at_builtin; refine app_bytes rfl (.tmp 23) (.tmp 32) rfl w.heap.size A c' (l.length + k) (l ++ beTo v0 n k) HLK.out.symm rfl (HO'.out.below ((Below.refl _ _).alloc (Nat.le_refl _) _)) (some ⟨wr.heap.size, 0, none⟩) 1 1 [byteOf (v0 / 256 ^ (n - 1 - k))] rfl rfl (RdV.one (v := B8 _)) (l.length + k + 1) (by rw [HLK.out]; rfl) HBD.out w (hb'.alloc hsz _) (by simp; omega) ?_; intro A1 c1 w2 ho2 hb2 _ _; have HO2 := hid ho2; clear ho2)
      go_roundw
      case rel => exact ⟨k + 1, A1, c1, by omega, by go_num, rfl, by have := HO2.out; rw [List.append_assoc, ← beTo_succ] at this; exact this, hb2⟩
      case measure => simp [intOf]; omega
    · have hkn : k = n := by omega
      have HK := hid hkn; clear hkn
      go_wp2
      go_ret
      refine ⟨A, c', ?_, ?_, hb'⟩
      · rw [← HK.out]; rfl
      · rw [show be v0 n = beTo v0 n k by rw [HK.out]; rfl]; exact HO'.out
theorem Add16_any (w : World) (a : Option Addr) (c N : Nat) (l : List UInt8) (hN : N = l.length) (v : Nat) (x : Int) (hx : x = (v : Int)) (hl : l.length ≤ 199999999999000) (hr : RdB w a l) (hv : v < 65536) :
    Calls Try.prog 32 #[.slice a N c, .int .u16 x] w fun e w' =>
      ∃ A c', e = .returned (.slice A (N + 2) c') ∧ OwnB w.heap.size w' A c' (l ++ be v 2) ∧ Below w.heap.size w w' := by
  subst hN
  subst hx
  go_enter Try.func32, Try.ntmps32
  go_wp2_with (go_at_call 50; refine (add_any _ _ _ _ l rfl v 2 hl hr (by omega) (by omega)).mono ?_; rintro e w' ⟨A, c', rfl, h1, h2⟩)
  go_ret
  exact ⟨A, c', rfl, h1, h2⟩
theorem Add32_any (w : World) (a : Option Addr) (c N : Nat) (l : List UInt8) (hN : N = l.length) (v : Nat) (x : Int) (hx : x = (v : Int)) (hl : l.length ≤ 199999999999000) (hr : RdB w a l) (hv : v < 4294967296) :
    Calls Try.prog 33 #[.slice a N c, .int .u32 x] w fun e w' =>
      ∃ A c', e = .returned (.slice A (N + 4) c') ∧ OwnB w.heap.size w' A c' (l ++ be v 4) ∧ Below w.heap.size w w' := by
  subst hN
  subst hx
  go_enter Try.func33, Try.ntmps33
  go_wp2_with (go_at_call 50; refine (add_any _ _ _ _ l rfl v 4 hl hr (by omega) (by omega)).mono ?_; rintro e w' ⟨A, c', rfl, h1, h2⟩)
  go_ret
  exact ⟨A, c', rfl, h1, h2⟩
theorem Add64_any (w : World) (a : Option Addr) (c N : Nat) (l : List UInt8) (hN : N = l.length) (v : Nat) (x : Int) (hx : x = (v : Int)) (hl : l.length ≤ 199999999999000) (hr : RdB w a l) (hv : v < 18446744073709551616) :
    Calls Try.prog 48 #[.slice a N c, .int .u64 x] w fun e w' =>
      ∃ A c', e = .returned (.slice A (N + 8) c') ∧ OwnB w.heap.size w' A c' (l ++ be v 8) ∧ Below w.heap.size w w' := by
  subst hN
  subst hx
  go_enter Try.func48, Try.ntmps48
  go_wp2_with (go_at_call 50; refine (add_any _ _ _ _ l rfl v 8 hl hr (by omega) (by omega)).mono ?_; rintro e w' ⟨A, c', rfl, h1, h2⟩)
  go_ret
  exact ⟨A, c', rfl, h1, h2⟩

def addTxt (l : List UInt8) (t : ByteArray) : List UInt8 := if t.size ≤ 65535 then l ++ be t.size 2 ++ t.data.toList else []
def errTxt (t : ByteArray) : Int := if t.size ≤ 65535 then 0 else 3
theorem data_length (t : ByteArray) : t.data.toList.length = t.size := by rw [Array.length_toList]; rfl
end Go.Proofs.Ytknhfaplddgnlaa
