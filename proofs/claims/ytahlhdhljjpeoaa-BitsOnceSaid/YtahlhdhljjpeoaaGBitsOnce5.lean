/- Texts joined: Oct, Oct2, Oct3, SumsPure. -/
import Derived.Test.YtahlhdhljjpeoaaGBitsOnce1
/- The walks of package octets, and the plain functions that they compute. -/
namespace Go.Proofs.Ytahlhdhljjpeoaa
open Go.RowKit
set_option maxHeartbeats 800000
set_option linter.unusedVariables false
set_option linter.unusedSimpArgs false

/-- The number that n bytes from a place are, highest first. -/
def numTo (l : List UInt8) (p : Nat) : Nat → Nat
  | 0 => 0
  | n + 1 => numTo l p n * 256 + (bat l (p + n)).toNat
def numOk (l : List UInt8) (p : Int) (n : Nat) : Bool := decide (0 ≤ p ∧ p ≤ (l.length : Int) - n)
def numV (l : List UInt8) (p : Int) (n : Nat) : Nat := if numOk l p n then numTo l p.toNat n else 0
theorem numTo_lt (l : List UInt8) (p : Nat) : ∀ n, numTo l p n < 256 ^ n
  | 0 => by simp [numTo]
  | n + 1 => by
    have := numTo_lt l p n
    have hb := bat_lt l (p + n)
    simp only [numTo, Nat.pow_succ]
    omega
theorem numV_lt (l : List UInt8) (p : Int) (n : Nat) : numV l p n < 256 ^ n := by
  unfold numV; split
  · exact numTo_lt l _ n
  · exact Nat.pow_pos (by decide)
theorem u64_or (x y : Nat) (hx : x * 256 < 18446744073709551616) (hy : y < 256) : bits .or .u64 ((x : Int) * 256) (y : Int) = ((x * 256 + y : Nat) : Int) := by
  rw [bits_join .u64 64 (by decide) (fun n h0 h1 => IntWalk.u64_in n (by omega)) 8 ((x : Int) * 256) (y : Int) (by omega) (by omega) (by omega) (by omega) (by omega) (by omega)]
  omega

theorem number_any (w : World) (a : Option Addr) (c N : Nat) (l : List UInt8) (hN : N = l.length) (p : Int) (n : Nat) (hl : l.length ≤ 200000000000000) (hr : RdB w a l) (hp : -9223372036854775808 ≤ p ∧ p ≤ 9223372036854775807) (hn : n ≤ 8) :
    Calls Try.prog 114 #[.slice a N c, .int .i64 p, .int .i64 (n : Int)] w fun e w' => e = .returned (.tuple #[.int .u64 (numV l p n : Nat), .bool (numOk l p n)]) ∧ w = w' := by
  subst hN
  by_cases h0 : p < 0
  · have E := hid (show numV l p n = 0 ∧ numOk l p n = false by simp [numV, numOk]; omega)
    go_enter Try.func114, Try.ntmps114
    go_wp2
    go_ret2
    exact ⟨by rw [E.out.1, E.out.2]; rfl, rfl⟩
  · by_cases h1 : (l.length : Int) - n < p
    · have E := hid (show numV l p n = 0 ∧ numOk l p n = false by simp [numV, numOk]; omega)
      go_enter Try.func114, Try.ntmps114
      go_wp2
      go_ret2
      exact ⟨by rw [E.out.1, E.out.2]; rfl, rfl⟩
    · obtain ⟨q, rfl⟩ := Int.eq_ofNat_of_zero_le (Int.not_lt.1 h0)
      have E := hid (show numV l q n = numTo l q n ∧ numOk l q n = true by simp [numV, numOk]; omega)
      have hq : q + n ≤ l.length := by omega
      go_enter Try.func114, Try.ntmps114
      go_wp2
      go_loop [8, 21] (fun v i => ∃ k : Nat, k ≤ n ∧ i = .int .i64 k ∧ v = .int .u64 (numTo l q k : Nat)) (fun _ i => n - (intOf i).toNat)
      case atStart => exact ⟨0, by omega, rfl, rfl⟩
      case round =>
        obtain ⟨k, hk, rfl, rfl⟩ := hrel
        by_cases hlt : k < n
        · obtain ⟨b, off, rfl, hc⟩ := hr.at_ (by intro e; simp [e] at hq; omega)
          have hck := hc (q + k) (by omega)
          clear hc
          have hb8 := bat_lt l (q + k)
          have hx := numTo_lt l q k
          have hx2 : numTo l q k * 256 < 18446744073709551616 := by
            have h1 : (256 : Nat) ^ k ≤ 256 ^ 7 := Nat.pow_le_pow_right (by decide) (by omega)
            have h2 : (256 : Nat) ^ 7 = 72057594037927936 := by decide
            omega
          have e1 := u64_or (numTo l q k) (bat l (q + k)).toNat hx2 hb8
          have E1 := hid e1; clear e1 hx
          go_wp2
          go_round
          case rel => exact ⟨k + 1, by omega, by go_num, by rw [E1.out]; rfl⟩
          case measure => simp [intOf]; omega
        · have hkn : k = n := by omega
          have HK := hid hkn; clear hkn
          go_wp2
          go_ret2
          exact ⟨by rw [E.out.1, E.out.2, ← HK.out]; rfl, rfl⟩

theorem U16_any (w : World) (a : Option Addr) (c N : Nat) (l : List UInt8) (hN : N = l.length) (p : Int) (hl : l.length ≤ 200000000000000) (hr : RdB w a l) (hp : -9223372036854775808 ≤ p ∧ p ≤ 9223372036854775807) :
    Calls Try.prog 94 #[.slice a N c, .int .i64 p] w fun e w' => e = .returned (.tuple #[.int .u16 (numV l p 2 : Nat), .bool (numOk l p 2)]) ∧ w = w' := by
  subst hN
  have hx : numV l p 2 < 65536 := numV_lt l p 2
  go_enter Try.func94, Try.ntmps94
  go_wp2_with (go_at_call 114; refine (number_any _ _ _ _ l rfl p 2 hl hr hp (by omega)).mono ?_; rintro e w' ⟨rfl, rfl⟩)
  go_ret2
  exact ⟨rfl, rfl⟩
theorem U32_any (w : World) (a : Option Addr) (c N : Nat) (l : List UInt8) (hN : N = l.length) (p : Int) (hl : l.length ≤ 200000000000000) (hr : RdB w a l) (hp : -9223372036854775808 ≤ p ∧ p ≤ 9223372036854775807) :
    Calls Try.prog 95 #[.slice a N c, .int .i64 p] w fun e w' => e = .returned (.tuple #[.int .u32 (numV l p 4 : Nat), .bool (numOk l p 4)]) ∧ w = w' := by
  subst hN
  have hx : numV l p 4 < 4294967296 := numV_lt l p 4
  go_enter Try.func95, Try.ntmps95
  go_wp2_with (go_at_call 114; refine (number_any _ _ _ _ l rfl p 4 hl hr hp (by omega)).mono ?_; rintro e w' ⟨rfl, rfl⟩)
  go_ret2
  exact ⟨rfl, rfl⟩
/-- The last n bytes of a number, highest first; the first i of them. -/
def beTo (v n i : Nat) : List UInt8 := (List.range i).map fun j => byteOf (v / 256 ^ (n - 1 - j))
def be (v n : Nat) : List UInt8 := beTo v n n
theorem beTo_length (v n i : Nat) : (beTo v n i).length = i := by simp [beTo]
theorem be_length (v n : Nat) : (be v n).length = n := beTo_length v n n
theorem beTo_succ (v n i : Nat) : beTo v n (i + 1) = beTo v n i ++ [byteOf (v / 256 ^ (n - 1 - i))] := by simp [beTo, List.range_succ]
theorem shr_byte (v k : Nat) : (v : Int) / 2 ^ (8 * k) % 256 = ((byteOf (v / 256 ^ k)).toNat : Int) := by
  rw [byteOf, UInt8.toNat_ofNat', show (2 : Int) ^ (8 * k) = ((256 ^ k : Nat) : Int) by rw [Int.pow_mul]; simp]
  omega

theorem add_any (w : World) (a : Option Addr) (c N : Nat) (l : List UInt8) (hN : N = l.length) (v0 n : Nat) (hl : l.length ≤ 199999999999000) (hr : RdB w a l) (hn : n ≤ 8) (hv : v0 < 18446744073709551616) :
    Calls Try.prog 111 #[.slice a N c, .int .u64 (v0 : Int), .int .i64 (n : Int)] w fun e w' =>
      ∃ A c', e = .returned (.slice A (N + n) c') ∧ OwnB w.heap.size w' A c' (l ++ be v0 n) ∧ Below w.heap.size w w' := by
  subst hN
  have hmk : ∀ W : World, (Instr.makeSlice 61 (.int .i64 (l.length : Int)) (.int .i64 ((l.length : Int) + (n : Int)))).run Try.prog W = .ok (.slice (some ⟨W.heap.size, 0, none⟩) l.length (l.length + n)) (W.alloc (.cells (madeCells #[.int .u8 0] (l.length + n)) 5)) := by
    intro W
    obtain ⟨i0, hi, hz0, hz1, hz2⟩ := info_parts info_u8
    have := run_make (P := Try.prog) W 61 5 i0 (.int .u8 0) Try.underlying61 hi hz0 .i64 .i64 (l.length : Int) ((l.length : Int) + n) (by omega) (by omega) (by rw [hz2]; omega) (by omega)
    rw [this, hz1]
    simp only [Int.toNat_natCast, Nat.mul_one]
    have h : ((l.length : Int) + (n : Int)).toNat = l.length + n := by omega
    rw [h]; rfl
  go_enter Try.func111, Try.ntmps111
  go_wp2_with (with_reducible refine copy_bytes rfl (.tmp 16) (.tmp 17) rfl w.heap.size 0 l.length (l.length + n) rfl a l.length c l rfl rfl (hr.alloc _) (madeCells #[.int .u8 0] (l.length + n)).toList (by simpa using heap_alloc_new w _) (by simp [size_madeCells]) w.heap.size w ((Below.refl _ _).alloc (Nat.le_refl _) _) (Nat.le_refl _) ?_; intro w1 hg hb1 hs1 _)
  have ho : OwnB w.heap.size w1 (some ⟨w.heap.size, 0, none⟩) (l.length + n) l := by
    refine ⟨by simp [B8s], .inr ⟨w.heap.size, _, _, rfl, Nat.le_refl _, hg.out, by omega, by simp only [maxLen]; omega, ?_, ?_⟩⟩
    · simp [splice, size_madeCells, B8s]
    · simp [splice, B8s]
  go_loopw [7, 20] (fun v i wr => ∃ (k : Nat) (A : Option Addr) (c' : Nat), k ≤ n ∧ i = .int .i64 k ∧ v = .slice A (l.length + k) c' ∧ OwnB w.heap.size wr A c' (l ++ beTo v0 n k) ∧ Below w.heap.size w wr) (fun _ i _ => n - (intOf i).toNat)
  case atStart => exact ⟨0, some ⟨w.heap.size, 0, none⟩, l.length + n, by omega, rfl, rfl, by simpa [beTo] using ho, hb1⟩
  case round =>
    obtain ⟨k, A, c', hk, rfl, rfl, ho', hb'⟩ := hrel
    have HO' := hid ho'; clear ho' ho hs1 hmk
    have hlk : (l ++ beTo v0 n k).length = l.length + k := by simp [beTo_length]
    have HLK := hid hlk; clear hlk
    by_cases hlt : k < n
    · have e1 := shr_byte v0 (n - 1 - k)
      have hbd : (l ++ beTo v0 n k).length + [byteOf (v0 / 256 ^ (n - 1 - k))].length ≤ 200000000000000 := by rw [HLK.out]; simp; omega
      have HBD := hid hbd; clear hbd
      have hsz := hb'.size
      go_wp2_with (at_builtin; refine app_bytes rfl (.tmp 23) (.tmp 32) rfl w.heap.size A c' (l.length + k) (l ++ beTo v0 n k) HLK.out.symm rfl (HO'.out.below ((Below.refl _ _).alloc (Nat.le_refl _) _)) (some ⟨wr.heap.size, 0, none⟩) 1 1 [byteOf (v0 / 256 ^ (n - 1 - k))] rfl rfl (RdV.one (v := B8 _)) (l.length + k + 1) (by rw [HLK.out]; rfl) HBD.out w (hb'.alloc hsz _) (by simp; omega) ?_; intro A1 c1 w2 ho2 hb2 _ _; have HO2 := hid ho2; clear ho2)
      go_roundw
      case rel => exact ⟨k + 1, A1, c1, by omega, by go_num, rfl, by have := HO2.out; rw [List.append_assoc, ← beTo_succ] at this; exact this, hb2⟩
      case measure => simp [intOf]; omega
    · have hkn : k = n := by omega
      have HK := hid hkn; clear hkn
      go_wp2
      go_ret
      refine ⟨A, c', ?_, ?_, hb'⟩
      · rw [← HK.out]; rfl
      · rw [show be v0 n = beTo v0 n k by rw [HK.out]; rfl]; exact HO'.out
theorem Add16_any (w : World) (a : Option Addr) (c N : Nat) (l : List UInt8) (hN : N = l.length) (v : Nat) (x : Int) (hx : x = (v : Int)) (hl : l.length ≤ 199999999999000) (hr : RdB w a l) (hv : v < 65536) :
    Calls Try.prog 87 #[.slice a N c, .int .u16 x] w fun e w' =>
      ∃ A c', e = .returned (.slice A (N + 2) c') ∧ OwnB w.heap.size w' A c' (l ++ be v 2) ∧ Below w.heap.size w w' := by
  subst hN
  subst hx
  go_enter Try.func87, Try.ntmps87
  go_wp2_with (go_at_call 111; refine (add_any _ _ _ _ l rfl v 2 hl hr (by omega) (by omega)).mono ?_; rintro e w' ⟨A, c', rfl, h1, h2⟩)
  go_ret
  exact ⟨A, c', rfl, h1, h2⟩
theorem Add32_any (w : World) (a : Option Addr) (c N : Nat) (l : List UInt8) (hN : N = l.length) (v : Nat) (x : Int) (hx : x = (v : Int)) (hl : l.length ≤ 199999999999000) (hr : RdB w a l) (hv : v < 4294967296) :
    Calls Try.prog 86 #[.slice a N c, .int .u32 x] w fun e w' =>
      ∃ A c', e = .returned (.slice A (N + 4) c') ∧ OwnB w.heap.size w' A c' (l ++ be v 4) ∧ Below w.heap.size w w' := by
  subst hN
  subst hx
  go_enter Try.func86, Try.ntmps86
  go_wp2_with (go_at_call 111; refine (add_any _ _ _ _ l rfl v 4 hl hr (by omega) (by omega)).mono ?_; rintro e w' ⟨A, c', rfl, h1, h2⟩)
  go_ret
  exact ⟨A, c', rfl, h1, h2⟩
def addTxt (l : List UInt8) (t : ByteArray) : List UInt8 := if t.size ≤ 65535 then l ++ be t.size 2 ++ t.data.toList else []
def errTxt (t : ByteArray) : Int := if t.size ≤ 65535 then 0 else 3
theorem data_length (t : ByteArray) : t.data.toList.length = t.size := by rw [Array.length_toList]; rfl
end Go.Proofs.Ytahlhdhljjpeoaa

/- The walks of octets.Text and of the document's octets. -/
namespace Go.Proofs.Ytahlhdhljjpeoaa
open Go.RowKit
set_option maxHeartbeats 800000
set_option linter.unusedVariables false
set_option linter.unusedSimpArgs false

def txtOk (l : List UInt8) (p : Int) : Bool := numOk l p 2 && decide ((numV l p 2 : Int) ≤ (l.length : Int) - p - 2)
def txtV (l : List UInt8) (p : Int) : List UInt8 := if txtOk l p then (l.drop (p.toNat + 2)).take (numV l p 2) else []
def txtEnd (l : List UInt8) (p : Int) : Int := if txtOk l p then p + 2 + numV l p 2 else 0

/-! The document's. -/
theorem Number_any (w : World) (a : Option Addr) (c N : Nat) (l : List UInt8) (hN : N = l.length) (p : Int) (n : Nat) (hl : l.length ≤ 200000000000000) (hr : RdB w a l) (hp : -9223372036854775808 ≤ p ∧ p ≤ 9223372036854775807) (hn : n ≤ 8) :
    Calls Try.prog 119 #[.slice a N c, .int .i64 p, .int .i64 (n : Int)] w fun e w' => e = .returned (.tuple #[.int .u64 (numV l p n : Nat), .bool (numOk l p n)]) ∧ w = w' := by
  subst hN
  by_cases h0 : p < 0
  · have E := hid (show numV l p n = 0 ∧ numOk l p n = false by simp [numV, numOk]; omega)
    go_enter Try.func119, Try.ntmps119
    go_wp2
    go_ret2
    exact ⟨by rw [E.out.1, E.out.2]; rfl, rfl⟩
  · by_cases h2 : l.length < n
    · have hd : decide (l.length < n) = true := by simpa using h2
      have E := hid (show numV l p n = 0 ∧ numOk l p n = false by simp [numV, numOk]; omega)
      go_enter Try.func119, Try.ntmps119
      go_wp2
      go_ret2
      exact ⟨by rw [E.out.1, E.out.2]; rfl, rfl⟩
    · have hd : decide (l.length < n) = false := by simpa using h2
      by_cases h1 : (l.length : Int) - n < p
      · have E := hid (show numV l p n = 0 ∧ numOk l p n = false by simp [numV, numOk]; omega)
        go_enter Try.func119, Try.ntmps119
        go_wp2
        go_ret2
        exact ⟨by rw [E.out.1, E.out.2]; rfl, rfl⟩
      · obtain ⟨q, rfl⟩ := Int.eq_ofNat_of_zero_le (Int.not_lt.1 h0)
        have E := hid (show numV l q n = numTo l q n ∧ numOk l q n = true by simp [numV, numOk]; omega)
        have hq : q + n ≤ l.length := by omega
        go_enter Try.func119, Try.ntmps119
        go_wp2
        go_loop [8, 9] (fun v i => ∃ k : Nat, k ≤ n ∧ i = .int .i64 k ∧ v = .int .u64 (numTo l q k : Nat)) (fun _ i => n - (intOf i).toNat)
        case atStart => exact ⟨0, by omega, rfl, rfl⟩
        case round =>
          obtain ⟨k, hk, rfl, rfl⟩ := hrel
          by_cases hlt : k < n
          · obtain ⟨b, off, rfl, hc⟩ := hr.at_ (by rintro rfl; simp at hq; omega)
            have hck := hc (q + k) (by omega)
            clear hc
            have hb8 := bat_lt l (q + k)
            have hx := numTo_lt l q k
            have hx2 : 256 * numTo l q k < 18446744073709551616 - 255 := by
              have h1 : (256 : Nat) ^ k ≤ 256 ^ 7 := Nat.pow_le_pow_right (by decide) (by omega)
              have h2 : (256 : Nat) ^ 7 = 72057594037927936 := by decide
              omega
            clear hx
            go_wp2
            go_round
            case rel => exact ⟨k + 1, by omega, by go_num, by rw [numTo, Nat.mul_comm, Int.natCast_add, Int.natCast_mul]; rfl⟩
            case measure => simp [intOf]; omega
          · have hkn : k = n := by omega
            have HK := hid hkn; clear hkn
            go_wp2
            go_ret2
            exact ⟨by rw [E.out.1, E.out.2, ← HK.out]; rfl, rfl⟩

/-- The lowest bytes of a number, lowest first. -/
def leTo (v n : Nat) : List UInt8 := (List.range n).map fun j => byteOf (v / 256 ^ j)
theorem leTo_length (v n : Nat) : (leTo v n).length = n := by simp [leTo]
theorem leTo_succ (v n : Nat) : leTo v (n + 1) = leTo v n ++ [byteOf (v / 256 ^ n)] := by simp [leTo, List.range_succ]
theorem bat_leTo (v n k : Nat) (h : k < n) : bat (leTo v n) k = byteOf (v / 256 ^ k) := by simp [bat, leTo, h]
theorem low_byte (v : Nat) : (v : Int) % 256 = ((byteOf v).toNat : Int) := by rw [byteOf, UInt8.toNat_ofNat']; omega

theorem refAdd_any (w : World) (a : Option Addr) (c N : Nat) (l : List UInt8) (hN : N = l.length) (v0 n : Nat) (x : Int) (hx : x = (v0 : Int)) (hl : l.length ≤ 199999999999000) (hr : RdB w a l) (hn : n ≤ 8) (hv : v0 < 18446744073709551616) :
    Calls Try.prog 118 #[.slice a N c, .int .u64 x, .int .i64 (n : Int)] w fun e w' =>
      ∃ A c', e = .returned (.slice A (N + n) c') ∧ OwnB w.heap.size w' A c' (l ++ be v0 n) ∧ Below w.heap.size w w' := by
  subst hN
  subst hx
  go_enter Try.func118, Try.ntmps118
  go_wp2
  go_loopw [1, 7, 8] (fun v s i wr => ∃ (k : Nat) (A : Option Addr) (c' : Nat), k ≤ n ∧ i = .int .i64 k ∧ v = .int .u64 ((v0 / 256 ^ k : Nat) : Int) ∧ s = .slice A k c' ∧ OwnB w.heap.size wr A c' (leTo v0 k) ∧ Below w.heap.size w wr) (fun _ _ i _ => n - (intOf i).toNat)
  case atStart => exact ⟨0, none, 0, by omega, rfl, by simp, rfl, OwnB.nil _ _, Below.refl _ _⟩
  case round =>
    obtain ⟨k, A, c', hk, rfl, rfl, rfl, ho', hb'⟩ := hrel
    have HO' := hid ho'; clear ho'
    have hlk := leTo_length v0 k
    have HLK := hid hlk; clear hlk
    have hsz := hb'.size
    by_cases hlt : k < n
    · have hvk : v0 / 256 ^ k ≤ v0 := Nat.div_le_self _ _
      have e2 : v0 / 256 ^ k / 256 = v0 / 256 ^ (k + 1) := by rw [Nat.div_div_eq_div_mul, Nat.pow_succ]
      have E2 := hid e2; clear e2
      generalize hu : v0 / 256 ^ k = u at *
      have HU := hid hu; clear hu
      have e1 := low_byte u
      go_wp2_with (at_builtin; refine app_bytes rfl (.tmp 16) (.tmp 20) rfl w.heap.size A c' k (leTo v0 k) HLK.out.symm rfl (HO'.out.below ((Below.refl _ _).alloc (Nat.le_refl _) _)) (some ⟨wr.heap.size, 0, none⟩) 1 1 [byteOf u] rfl rfl (RdV.one (v := B8 _)) (k + 1) (by rw [HLK.out]; rfl) (by rw [HLK.out]; simp; omega) w (hb'.alloc hsz _) (by simp; omega) ?_; intro A1 c1 w2 ho2 hb2 _ _; have HO2 := hid ho2; clear ho2)
      go_roundw
      case rel => exact ⟨k + 1, A1, c1, by omega, by go_num, by rw [← E2.out, Int.natCast_ediv]; rfl, rfl, by have := HO2.out; rw [← HU.out, ← leTo_succ] at this; exact this, hb2⟩
      case measure => simp [intOf]; omega
    · obtain rfl : k = n := by omega
      obtain ⟨wo, rfl⟩ : ∃ wo : World, wo = wr := ⟨_, rfl⟩
      have hlow := RdB.below (w' := wo) HO'.out.rd (Below.refl _ _)
      have HL := hid hlow; clear hlow
      go_wp2_with (at_builtin; refine app_bytes rfl (.tmp 24) (.tmp 25) rfl wo.heap.size none 0 0 [] rfl rfl (OwnB.nil _ _) a l.length c l rfl rfl (hr.below hb') l.length (by simp) (by simp; omega) wo (Below.refl _ _) (Nat.le_refl _) ?_; intro A1 c1 w2 ho2 hb2 _ _; have HO2 := hid ho2; clear ho2)
      have hsz2 := hb2.size
      go_loopw [9, 10] (fun s i wr => ∃ (j : Nat) (A2 : Option Addr) (c2 : Nat), j ≤ k ∧ i = .int .i64 ((k : Int) - 1 - j) ∧ s = .slice A2 (l.length + j) c2 ∧ OwnB wo.heap.size wr A2 c2 (l ++ beTo v0 k j) ∧ Below wo.heap.size wo wr) (fun _ i _ => (intOf i + 1).toNat)
      case atStart => exact ⟨0, A1, c1, by omega, by simp, rfl, by simpa [beTo] using HO2.out, hb2⟩
      case round =>
        obtain ⟨j, A2, c2, hj, rfl, rfl, ho3, hb3⟩ := hrel
        have HO3 := hid ho3; clear ho3
        have hlj : (l ++ beTo v0 k j).length = l.length + j := by simp [beTo_length]
        have HLJ := hid hlj; clear hlj
        have hsz3 := hb3.size
        by_cases hjk : j < k
        · obtain ⟨b, off, rfl, hc⟩ := HL.out.at_ (by intro e; have := HLK.out; rw [e] at this; simp at this; omega)
          have hck := cell_below hb3 (hc (k - 1 - j) (by rw [HLK.out]; omega))
          rw [bat_leTo _ _ _ (by omega)] at hck
          clear hc
          go_wp2_with (at_builtin; go_loud (refine app_bytes rfl (.tmp 33) (.tmp 38) rfl wo.heap.size A2 c2 (l.length + j) (l ++ beTo v0 k j) HLJ.out.symm rfl (HO3.out.below ((Below.refl _ _).alloc (Nat.le_refl _) _)) (some ⟨wr.heap.size, 0, none⟩) 1 1 [byteOf (v0 / 256 ^ (k - 1 - j))] rfl rfl (RdV.one (v := B8 _)) (l.length + j + 1) (by rw [HLJ.out]; rfl) (by rw [HLJ.out]; simp; omega) wo (hb3.alloc hsz3 _) (by simp; omega) ?_; intro A4 c4 w4 ho4 hb4 _ _; have HO4 := hid ho4; clear ho4))
          go_roundw
          case rel => exact ⟨j + 1, A4, c4, by omega, by congr 1; omega, rfl, by have := HO4.out; rw [List.append_assoc, ← beTo_succ] at this; exact this, hb4⟩
          case measure => simp [intOf]; omega
        · obtain rfl : j = k := by omega
          go_wp2
          go_ret
          exact ⟨A2, c2, rfl, HO3.out.mono hsz, hb'.trans (hb3.mono hsz)⟩

end Go.Proofs.Ytahlhdhljjpeoaa

/- Plain laws of octets: what is put behind bytes is read back; numbers stand in bytes in their own order. -/
namespace Go.Proofs.Ytahlhdhljjpeoaa
open Go.RowKit
set_option linter.unusedVariables false

theorem bat_right (X Y : List UInt8) (k p : Nat) (hp : p = X.length + k) : bat (X ++ Y) p = bat Y k := by
  subst hp
  simp [bat, List.getElem?_append_right]
theorem bat_left (X Y : List UInt8) (k : Nat) (h : k < X.length) : bat (X ++ Y) k = bat X k := by
  simp [bat, List.getElem?_append_left h]
theorem bat_be (v n k : Nat) (h : k < n) : bat (be v n) k = byteOf (v / 256 ^ (n - 1 - k)) := by simp [bat, be, beTo, h]
theorem byteOf_toNat (n : Nat) : (byteOf n).toNat = n % 256 := by simp [byteOf]
theorem numTo_mid (X Y : List UInt8) (v n : Nat) : ∀ k, k ≤ n → numTo (X ++ (be v n ++ Y)) X.length k = v / 256 ^ (n - k) % 256 ^ k
  | 0, _ => by simp [numTo, Nat.mod_one]
  | k + 1, h => by
    have ih := numTo_mid X Y v n k (by omega)
    rw [numTo, ih, bat_right X _ k _ rfl, bat_left _ _ _ (by rw [be_length]; omega), bat_be _ _ _ (by omega), byteOf_toNat]
    have e1 : n - k = (n - 1 - k) + 1 := by omega
    have e2 : n - (k + 1) = n - 1 - k := by omega
    rw [e1, e2, Nat.pow_succ, ← Nat.div_div_eq_div_mul]
    generalize v / 256 ^ (n - 1 - k) = u
    rw [Nat.pow_succ, Nat.mul_comm (256 ^ k) 256, Nat.mod_mul]
    omega
theorem numV_at (X Y L : List UInt8) (v n : Nat) (p : Int) (hp : p = (X.length : Int)) (hL : L = X ++ (be v n ++ Y)) : numOk L p n = true ∧ numV L p n = v % 256 ^ n := by
  subst hp hL
  have h : numOk (X ++ (be v n ++ Y)) (X.length : Int) n = true := by simp [numOk, be_length]; omega
  refine ⟨h, ?_⟩
  rw [numV, if_pos h, Int.toNat_natCast, numTo_mid X Y v n n (Nat.le_refl _)]
  simp
theorem txt_at (X Y L T : List UInt8) (p : Int) (hp : p = (X.length : Int)) (hL : L = X ++ (be T.length 2 ++ (T ++ Y))) (hT : T.length ≤ 65535) :
    txtOk L p = true ∧ txtV L p = T ∧ txtEnd L p = p + 2 + T.length := by
  obtain ⟨h1, h2⟩ := numV_at X (T ++ Y) L T.length 2 p hp hL
  rw [Nat.mod_eq_of_lt (by omega)] at h2
  have hlen : L.length = X.length + 2 + T.length + Y.length := by rw [hL]; simp [be_length]; omega
  have h : txtOk L p = true := by
    rw [txtOk, h1, h2, hlen, hp]
    simp
    omega
  refine ⟨h, ?_, ?_⟩
  · rw [txtV, if_pos h, h2, hp, Int.toNat_natCast, hL]
    have e : X ++ (be T.length 2 ++ (T ++ Y)) = (X ++ be T.length 2) ++ (T ++ Y) := by simp
    rw [e, List.drop_left' (by simp [be_length]), List.take_left' rfl]
  · rw [txtEnd, if_pos h, h2]

/-- The first byte, and the others. -/
theorem be_cons (v n : Nat) : be v (n + 1) = byteOf (v / 256 ^ n) :: be v n := by
  simp only [be, beTo, List.range_succ_eq_map, List.map_cons, List.map_map]
  congr 1
  apply List.map_congr_left
  intro j hj
  simp only [Function.comp, List.mem_range] at hj ⊢
  congr 3
  omega
theorem be_mod (v n : Nat) : be (v % 256 ^ n) n = be v n := by
  simp only [be, beTo]
  apply List.map_congr_left
  intro j hj
  simp only [List.mem_range] at hj
  have e : (256 : Nat) ^ n = 256 ^ (n - 1 - j) * 256 ^ (j + 1) := by rw [← Nat.pow_add]; congr 1; omega
  rw [e, Nat.mod_mul_right_div_self]
  simp only [byteOf]
  apply UInt8.toNat_inj.1
  simp only [UInt8.toNat_ofNat', Nat.pow_succ]
  exact Nat.mod_mul_left_mod _ _ _
theorem be_inj (n : Nat) : ∀ a b : Nat, a < 256 ^ n → b < 256 ^ n → be a n = be b n → a = b := by
  induction n with
  | zero => intro a b ha hb _; simp at ha hb; omega
  | succ n ih =>
    intro a b ha hb h
    rw [be_cons, be_cons] at h
    obtain ⟨h1, h2⟩ := List.cons.inj h
    rw [← be_mod a, ← be_mod b] at h2
    have h3 := ih _ _ (Nat.mod_lt _ (Nat.pow_pos (by decide))) (Nat.mod_lt _ (Nat.pow_pos (by decide))) h2
    have h4 := congrArg UInt8.toNat h1
    rw [byteOf_toNat, byteOf_toNat] at h4
    rw [Nat.pow_succ] at ha hb
    rw [Nat.mod_eq_of_lt (Nat.div_lt_of_lt_mul ha), Nat.mod_eq_of_lt (Nat.div_lt_of_lt_mul hb)] at h4
    rw [← Nat.div_add_mod a (256 ^ n), ← Nat.div_add_mod b (256 ^ n), h3, h4]
theorem be_lt (n : Nat) : ∀ a b : Nat, a < 256 ^ n → b < 256 ^ n → (be a n < be b n ↔ a < b) := by
  induction n with
  | zero => intro a b ha hb; simp at ha hb; subst ha hb; simp [be, beTo]
  | succ n ih =>
    intro a b ha hb
    rw [be_cons, be_cons, List.cons_lt_cons_iff, ← be_mod a, ← be_mod b]
    have hp : 0 < 256 ^ n := Nat.pow_pos (by decide)
    rw [ih _ _ (Nat.mod_lt _ hp) (Nat.mod_lt _ hp), UInt8.lt_iff_toNat_lt, ← UInt8.toNat_inj, byteOf_toNat, byteOf_toNat]
    rw [Nat.pow_succ] at ha hb
    rw [Nat.mod_eq_of_lt (Nat.div_lt_of_lt_mul ha), Nat.mod_eq_of_lt (Nat.div_lt_of_lt_mul hb)]
    have ea := Nat.div_add_mod a (256 ^ n)
    have eb := Nat.div_add_mod b (256 ^ n)
    have la := Nat.mod_lt a hp
    have lb := Nat.mod_lt b hp
    generalize a / 256 ^ n = x at *
    generalize b / 256 ^ n = y at *
    generalize a % 256 ^ n = r at *
    generalize b % 256 ^ n = s at *
    generalize 256 ^ n = m at *
    subst ea eb
    constructor
    · rintro (h | ⟨rfl, h⟩)
      · have : m * (x + 1) ≤ m * y := Nat.mul_le_mul_left _ h
        rw [Nat.mul_add] at this
        omega
      · omega
    · intro h
      rcases Nat.lt_trichotomy x y with h1 | h1 | h1
      · exact .inl h1
      · subst h1; exact .inr ⟨rfl, by omega⟩
      · have : m * (y + 1) ≤ m * x := Nat.mul_le_mul_left _ h1
        rw [Nat.mul_add] at this
        omega
theorem bytesLess_iff : ∀ (l m : List UInt8), Op.bytesLess l m = true ↔ l < m
  | l, [] => by cases l <;> simp [Op.bytesLess]
  | [], b :: m => by simp [Op.bytesLess]
  | a :: l, b :: m => by
    simp only [Op.bytesLess, Bool.or_eq_true, decide_eq_true_eq, Bool.and_eq_true, beq_iff_eq, List.cons_lt_cons_iff, bytesLess_iff l m]
theorem be_less (a b : Nat) (ha : a < 18446744073709551616) (hb : b < 18446744073709551616) : Op.bytesLess (be a 8) (be b 8) = decide (a < b) := by
  have h : (256 : Nat) ^ 8 = 18446744073709551616 := by decide
  rw [Bool.eq_iff_iff, bytesLess_iff, be_lt 8 a b (by omega) (by omega), decide_eq_true_eq]
theorem be_same (a b : Nat) (ha : a < 18446744073709551616) (hb : b < 18446744073709551616) : (be a 8 == be b 8) = ((a : Int) == (b : Int)) := by
  have h : (256 : Nat) ^ 8 = 18446744073709551616 := by decide
  rw [Bool.eq_iff_iff, beq_iff_eq, beq_iff_eq]
  constructor
  · intro e; rw [be_inj 8 a b (by omega) (by omega) e]
  · intro e; rw [Int.ofNat_inj.1 e]
end Go.Proofs.Ytahlhdhljjpeoaa

/- Plain laws of the check sum: turned bit by bit, it is linear, goes on, and sees each change within four bytes. -/
namespace Go.Proofs.Ytahlhdhljjpeoaa
open Go.RowKit
set_option linter.unusedVariables false

def crcTurn (r : Nat) : Nat := if r % 2 = 1 then (r / 2) ^^^ 2197175160 else r / 2
def crcTurns : Nat → Nat → Nat
  | 0, r => r
  | n + 1, r => crcTurn (crcTurns n r)
def crcByte (r : Nat) (b : UInt8) : Nat := crcTurns 8 (r ^^^ b.toNat)
def crcTo (s : Nat) (l : List UInt8) : Nat → Nat
  | 0 => 4294967295 - s
  | n + 1 => crcByte (crcTo s l n) (bat l n)
def crcMore (s : Nat) (l : List UInt8) : Nat := 4294967295 - crcTo s l l.length

theorem xor_lt32 {a b : Nat} (ha : a < 4294967296) (hb : b < 4294967296) : a ^^^ b < 4294967296 := Nat.xor_lt_two_pow (n := 32) ha hb
theorem crcTurn_lt {r : Nat} (h : r < 4294967296) : crcTurn r < 4294967296 := by
  unfold crcTurn; split
  · exact xor_lt32 (by omega) (by omega)
  · omega
theorem crcTurns_lt {r : Nat} (h : r < 4294967296) : ∀ n, crcTurns n r < 4294967296
  | 0 => h
  | n + 1 => crcTurn_lt (crcTurns_lt h n)
theorem crcByte_lt {r : Nat} (h : r < 4294967296) (b : UInt8) : crcByte r b < 4294967296 := crcTurns_lt (xor_lt32 h (by have := b.toNat_lt; omega)) 8
theorem crcTo_lt {s : Nat} (l : List UInt8) : ∀ n, crcTo s l n < 4294967296
  | 0 => by unfold crcTo; omega
  | n + 1 => crcByte_lt (crcTo_lt l n) _
theorem crcMore_lt (s : Nat) (l : List UInt8) : crcMore s l < 4294967296 := by unfold crcMore; omega

theorem u32_xor {a b : Nat} (ha : a < 4294967296) (hb : b < 4294967296) : bits .xor .u32 (a : Int) (b : Int) = ((a ^^^ b : Nat) : Int) := by
  have h : IntKind.u32.bits = 32 := rfl
  simp only [bits, h, BitVec.ofInt_natCast, BitVec.toNat_xor, BitVec.toNat_ofNat]
  rw [Nat.mod_eq_of_lt ha, Nat.mod_eq_of_lt hb, IntWalk.u32_in]
  have := xor_lt32 ha hb
  omega
theorem u8_xor {a b : Nat} (ha : a < 256) (hb : b < 256) : bits .xor .u8 (a : Int) (b : Int) = ((a ^^^ b : Nat) : Int) := by
  have h : IntKind.u8.bits = 8 := rfl
  simp only [bits, h, BitVec.ofInt_natCast, BitVec.toNat_xor, BitVec.toNat_ofNat]
  rw [Nat.mod_eq_of_lt ha, Nat.mod_eq_of_lt hb, IntWalk.u8_in]
  have := Nat.xor_lt_two_pow (n := 8) ha hb
  omega
theorem xor_max {a : Nat} (ha : a < 4294967296) : 4294967295 ^^^ a = 4294967295 - a := by
  have := BitVec.toNat_not (x := BitVec.ofNat 32 a)
  rw [BitVec.toNat_ofNat, Nat.mod_eq_of_lt ha] at this
  rw [← BitVec.allOnes_xor (x := BitVec.ofNat 32 a), BitVec.toNat_xor, BitVec.toNat_ofNat, BitVec.toNat_allOnes, Nat.mod_eq_of_lt ha] at this
  omega

/-! Linear. -/
theorem xor_mod2 (a b : Nat) : (a ^^^ b) % 2 = (a % 2 + b % 2) % 2 := by
  have h := Nat.testBit_xor (x := a) (y := b) (i := 0)
  simp only [Nat.testBit_zero] at h
  rcases Nat.mod_two_eq_zero_or_one a with ha | ha <;> rcases Nat.mod_two_eq_zero_or_one b with hb | hb <;> rcases Nat.mod_two_eq_zero_or_one (a ^^^ b) with hc | hc <;> simp [ha, hb, hc] at h ⊢
theorem xor_zero_iff {a b : Nat} (h : a ^^^ b = 0) : a = b := by
  have := congrArg (fun x => x ^^^ b) h
  simpa [Nat.xor_assoc] using this
theorem crcTurn_xor (a b : Nat) : crcTurn (a ^^^ b) = crcTurn a ^^^ crcTurn b := by
  have h := xor_mod2 a b
  unfold crcTurn
  rw [Nat.xor_div_two]
  have hx : ∀ x y z : Nat, x ^^^ z ^^^ y = x ^^^ y ^^^ z := fun x y z => by rw [Nat.xor_assoc, Nat.xor_comm z, ← Nat.xor_assoc]
  rcases Nat.mod_two_eq_zero_or_one a with ha | ha <;> rcases Nat.mod_two_eq_zero_or_one b with hb | hb
  · rw [if_neg (by omega), if_neg (by omega), if_neg (by omega)]
  · rw [if_pos (by omega), if_neg (by omega), if_pos (by omega), Nat.xor_assoc]
  · rw [if_pos (by omega), if_pos (by omega), if_neg (by omega), hx]
  · rw [if_neg (by omega), if_pos (by omega), if_pos (by omega), ← Nat.xor_assoc, hx (a / 2), Nat.xor_assoc _ 2197175160, Nat.xor_self, Nat.xor_zero]
theorem crcTurns_xor (a b : Nat) : ∀ n, crcTurns n (a ^^^ b) = crcTurns n a ^^^ crcTurns n b
  | 0 => rfl
  | n + 1 => by simp only [crcTurns, crcTurns_xor a b n, crcTurn_xor]
theorem crcTurn_zero {r : Nat} (h : r < 4294967296) (h0 : crcTurn r = 0) : r = 0 := by
  unfold crcTurn at h0
  split at h0
  · have := xor_zero_iff h0
    omega
  · omega
theorem crcTurns_zero {r : Nat} (h : r < 4294967296) : ∀ n, crcTurns n r = 0 → r = 0
  | 0, h0 => h0
  | n + 1, h0 => crcTurns_zero h n (crcTurn_zero (crcTurns_lt h n) h0)
theorem crcTurns_of_zero : ∀ n, crcTurns n 0 = 0
  | 0 => rfl
  | n + 1 => by simp [crcTurns, crcTurns_of_zero n, crcTurn]
theorem crcTurns_add (r m : Nat) : ∀ n, crcTurns (m + n) r = crcTurns n (crcTurns m r)
  | 0 => rfl
  | n + 1 => by
    show crcTurn (crcTurns (m + n) r) = _
    rw [crcTurns_add r m n]; rfl
theorem crcTurns_shift (x y : Nat) : ∀ k, crcTurns k (x ^^^ y * 2 ^ k) = crcTurns k x ^^^ y
  | 0 => by simp [crcTurns]
  | k + 1 => by
    have e : y * 2 ^ (k + 1) = (y * 2) * 2 ^ k := by rw [Nat.pow_succ, Nat.mul_comm (2 ^ k) 2, Nat.mul_assoc]
    have ht : crcTurn (y * 2) = y := by
      unfold crcTurn
      rw [if_neg (by omega)]
      omega
    simp only [crcTurns]
    rw [e, crcTurns_shift x (y * 2) k, crcTurn_xor, ht]

/-! As the document turns it. -/
/-- k bits of a byte, one by one. -/
def refBits (r b : Nat) : Nat → Nat
  | 0 => r
  | k + 1 => if b / 2 ^ k % 2 = refBits r b k % 2 then refBits r b k / 2 else (refBits r b k / 2) ^^^ 2197175160
theorem refBits_lt {r : Nat} (h : r < 4294967296) (b : Nat) : ∀ k, refBits r b k < 4294967296
  | 0 => h
  | k + 1 => by
    have := refBits_lt h b k
    unfold refBits; split
    · omega
    · exact xor_lt32 (by omega) (by omega)
theorem refBits_turns (r b : Nat) : ∀ k, crcTurns k (r ^^^ b) = refBits r b k ^^^ b / 2 ^ k
  | 0 => by simp [crcTurns, refBits]
  | k + 1 => by
    simp only [crcTurns]
    rw [refBits_turns r b k, refBits, Nat.pow_succ, ← Nat.div_div_eq_div_mul]
    generalize refBits r b k = x
    generalize b / 2 ^ k = y
    have h := xor_mod2 x y
    unfold crcTurn
    rw [Nat.xor_div_two]
    by_cases e : y % 2 = x % 2
    · rw [if_neg (by omega), if_pos e]
    · rw [if_pos (by omega), if_neg e, Nat.xor_assoc, Nat.xor_comm (y / 2), Nat.xor_assoc]
theorem refBits_byte (r : Nat) (b : UInt8) : refBits r b.toNat 8 = crcByte r b := by
  have := refBits_turns r b.toNat 8
  have hb := b.toNat_lt
  rw [show b.toNat / 2 ^ 8 = 0 by omega, Nat.xor_zero] at this
  exact this.symm

/-! Over lists. -/
theorem crcTo_append (s : Nat) (a b : List UInt8) : ∀ n, crcTo s (a ++ b) (a.length + n) = crcTo (4294967295 - crcTo s a a.length) b n
  | 0 => by
    have h := crcTo_lt (s := s) a a.length
    have e : ∀ k, k ≤ a.length → crcTo s (a ++ b) k = crcTo s a k := by
      intro k hk
      induction k with
      | zero => rfl
      | succ k ih => simp only [crcTo]; rw [ih (by omega)]; congr 1; simp [bat, List.getElem?_append_left (show k < a.length by omega)]
    simp only [crcTo, Nat.add_zero]
    rw [e _ (Nat.le_refl _)]
    omega
  | n + 1 => by
    show crcByte (crcTo s (a ++ b) (a.length + n)) (bat (a ++ b) (a.length + n)) = _
    rw [crcTo_append s a b n, crcTo]
    congr 1
    simp [bat, List.getElem?_append_right]
theorem crcMore_append (s : Nat) (a b : List UInt8) : crcMore s (a ++ b) = crcMore (crcMore s a) b := by
  unfold crcMore
  rw [List.length_append, crcTo_append]
theorem crcTo_xor3 (a b c x : List UInt8) (n : Nat) (hx : ∀ k, k < n → bat x k = bat a k ^^^ bat b k ^^^ bat c k) : crcTo 0 x n = crcTo 0 a n ^^^ crcTo 0 b n ^^^ crcTo 0 c n := by
  induction n with
  | zero => simp [crcTo]
  | succ n ih =>
    simp only [crcTo, crcByte]
    rw [ih (fun k hk => hx k (by omega)), hx n (by omega), ← crcTurns_xor, ← crcTurns_xor]
    congr 1
    simp only [UInt8.toNat_xor]
    generalize crcTo 0 a n = p
    generalize crcTo 0 b n = q
    generalize crcTo 0 c n = r
    generalize (bat a n).toNat = i
    generalize (bat b n).toNat = j
    generalize (bat c n).toNat = k
    apply Nat.eq_of_testBit_eq
    intro m
    simp only [Nat.testBit_xor]
    cases p.testBit m <;> cases q.testBit m <;> cases r.testBit m <;> cases i.testBit m <;> cases j.testBit m <;> cases k.testBit m <;> rfl
theorem crcMore_xor (l : List UInt8) : crcMore 0 l = 4294967295 ^^^ crcTo 0 l l.length := by
  rw [xor_max (crcTo_lt l _)]; rfl
theorem crcMore_xor3 (a b c x : List UInt8) (n : Nat) (ha : a.length = n) (hb : b.length = n) (hc : c.length = n) (hl : x.length = n) (hx : ∀ k, k < n → bat x k = bat a k ^^^ bat b k ^^^ bat c k) :
    crcMore 0 x = crcMore 0 a ^^^ crcMore 0 b ^^^ crcMore 0 c := by
  rw [crcMore_xor, crcMore_xor, crcMore_xor, crcMore_xor, ha, hb, hc, hl, crcTo_xor3 a b c x n hx]
  generalize crcTo 0 a n = p
  generalize crcTo 0 b n = q
  generalize crcTo 0 c n = r
  apply Nat.eq_of_testBit_eq
  intro m
  simp only [Nat.testBit_xor]
  cases (4294967295 : Nat).testBit m <;> cases p.testBit m <;> cases q.testBit m <;> cases r.testBit m <;> rfl

/-! A change within four bytes. -/
/-- The difference of two lists' registers. -/
theorem crcTo_diff (s : Nat) (a b : List UInt8) (n : Nat) : crcTo s a (n + 1) ^^^ crcTo s b (n + 1) = crcTurns 8 ((crcTo s a n ^^^ crcTo s b n) ^^^ ((bat a n).toNat ^^^ (bat b n).toNat)) := by
  simp only [crcTo, crcByte]
  rw [← crcTurns_xor]
  congr 1
  apply Nat.eq_of_testBit_eq
  intro m
  simp only [Nat.testBit_xor]
  generalize (crcTo s a n).testBit m = p
  generalize (crcTo s b n).testBit m = q
  generalize (bat a n).toNat.testBit m = i
  generalize (bat b n).toNat.testBit m = j
  cases p <;> cases q <;> cases i <;> cases j <;> rfl
/-- The word of the changed bytes. -/
def diffW (a b : List UInt8) (p : Nat) : Nat → Nat
  | 0 => 0
  | m + 1 => diffW a b p m ^^^ ((bat a (p + m)).toNat ^^^ (bat b (p + m)).toNat) * 2 ^ (8 * m)
theorem diffW_lt (a b : List UInt8) (p : Nat) : ∀ m, diffW a b p m < 2 ^ (8 * m)
  | 0 => by simp [diffW]
  | m + 1 => by
    have h := diffW_lt a b p m
    have hx : (bat a (p + m)).toNat ^^^ (bat b (p + m)).toNat < 2 ^ 8 := Nat.xor_lt_two_pow (bat_lt a _) (bat_lt b _)
    refine Nat.xor_lt_two_pow (Nat.lt_of_lt_of_le h (Nat.pow_le_pow_right (by decide) (by omega))) ?_
    rw [show 8 * (m + 1) = 8 + 8 * m by omega, Nat.pow_add]
    exact Nat.mul_lt_mul_of_pos_right hx (Nat.pow_pos (by decide))
theorem crc_word (s : Nat) (a b : List UInt8) (p : Nat) (h0 : crcTo s a p = crcTo s b p) : ∀ m, crcTo s a (p + m) ^^^ crcTo s b (p + m) = crcTurns (8 * m) (diffW a b p m)
  | 0 => by simp [h0, diffW, crcTurns]
  | m + 1 => by
    rw [← Nat.add_assoc, crcTo_diff, crc_word s a b p h0 m, diffW, show 8 * (m + 1) = 8 * m + 8 by omega, crcTurns_add, crcTurns_shift]
theorem diffW_zero (a b : List UInt8) (p : Nat) : ∀ m, diffW a b p m = 0 → ∀ k, k < m → bat a (p + k) = bat b (p + k)
  | 0, _, k, hk => by omega
  | m + 1, h0, k, hk => by
    have h := diffW_lt a b p m
    rw [diffW] at h0
    have e := xor_zero_iff h0
    have hz : (bat a (p + m)).toNat ^^^ (bat b (p + m)).toNat = 0 := by
      rcases Nat.eq_zero_or_pos ((bat a (p + m)).toNat ^^^ (bat b (p + m)).toNat) with h1 | h1
      · exact h1
      · have := Nat.mul_le_mul_right (2 ^ (8 * m)) h1
        omega
    rcases Nat.lt_succ_iff_lt_or_eq.1 hk with h1 | h1
    · refine diffW_zero a b p m ?_ k h1
      rw [e, hz, Nat.zero_mul]
    · subst h1
      exact UInt8.toNat_inj.1 (xor_zero_iff hz)
theorem crcTo_same (s : Nat) (a b : List UInt8) (n : Nat) (h : ∀ k, k < n → bat a k = bat b k) : crcTo s a n = crcTo s b n := by
  induction n with
  | zero => rfl
  | succ n ih => simp only [crcTo]; rw [ih (fun k hk => h k (by omega)), h n (by omega)]
theorem crcTo_back (s : Nat) (a b : List UInt8) (p : Nat) : ∀ m, (∀ k, k < m → bat a (p + k) = bat b (p + k)) → crcTo s a (p + m) = crcTo s b (p + m) → crcTo s a p = crcTo s b p
  | 0, _, h => h
  | m + 1, hk, h => by
    refine crcTo_back s a b p m (fun k h1 => hk k (by omega)) ?_
    have e := crcTo_diff s a b (p + m)
    rw [Nat.add_assoc, h, Nat.xor_self, hk m (by omega), Nat.xor_self, Nat.xor_zero] at e
    exact xor_zero_iff (crcTurns_zero (xor_lt32 (crcTo_lt _ _) (crcTo_lt _ _)) 8 e.symm)
/-- Lists that differ within four bytes next to each other at the most have one sum just if they are one. -/
theorem crc_burst (a b : List UInt8) (p m : Nat) (hl : a.length = b.length) (hp : p + m ≤ a.length) (hm : m ≤ 4) (h1 : ∀ k, k < p → bat a k = bat b k) (h2 : ∀ k, p + m ≤ k → k < a.length → bat a k = bat b k) :
    crcMore 0 a = crcMore 0 b ↔ a = b := by
  constructor
  · intro h
    have e : crcTo 0 a a.length = crcTo 0 b a.length := by
      have ha := crcTo_lt (s := 0) a a.length
      have hb := crcTo_lt (s := 0) b b.length
      unfold crcMore at h
      rw [← hl] at h hb
      omega
    have e2 : crcTo 0 a (p + m) = crcTo 0 b (p + m) := by
      refine crcTo_back 0 a b (p + m) (a.length - (p + m)) (fun k hk => h2 _ (by omega) (by omega)) ?_
      rw [show p + m + (a.length - (p + m)) = a.length by omega]
      exact e
    have w := crc_word 0 a b p (crcTo_same 0 a b p h1) m
    rw [e2, Nat.xor_self] at w
    have hlt : diffW a b p m < 4294967296 := Nat.lt_of_lt_of_le (diffW_lt a b p m) (by
      have : (2 : Nat) ^ (8 * m) ≤ 2 ^ 32 := Nat.pow_le_pow_right (by decide) (by omega)
      omega)
    have z := diffW_zero a b p m (crcTurns_zero hlt (8 * m) w.symm)
    apply List.ext_getElem hl
    intro i hi hj
    have hb : bat a i = bat b i := by
      rcases Nat.lt_or_ge i p with h | h
      · exact h1 i h
      · rcases Nat.lt_or_ge i (p + m) with h' | h'
        · have := z (i - p) (by omega)
          rwa [show p + (i - p) = i by omega] at this
        · exact h2 i h' hi
    simpa [bat, List.getElem?_eq_getElem hi, List.getElem?_eq_getElem hj] using hb
  · rintro rfl; rfl
end Go.Proofs.Ytahlhdhljjpeoaa
