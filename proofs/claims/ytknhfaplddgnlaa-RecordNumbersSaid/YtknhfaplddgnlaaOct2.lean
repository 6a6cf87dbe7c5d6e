/- The walks of octets.Text and of the document's octets. -/
import Derived.Test.YtknhfaplddgnlaaOct
namespace Go.Proofs.Ytknhfaplddgnlaa
open Go.RowKit
set_option maxHeartbeats 800000
set_option linter.unusedVariables false
set_option linter.unusedSimpArgs false

def txtOk (l : List UInt8) (p : Int) : Bool := numOk l p 2 && decide ((numV l p 2 : Int) ≤ (l.length : Int) - p - 2)
def txtV (l : List UInt8) (p : Int) : List UInt8 := if txtOk l p then (l.drop (p.toNat + 2)).take (numV l p 2) else []
def txtEnd (l : List UInt8) (p : Int) : Int := if txtOk l p then p + 2 + numV l p 2 else 0

/-! The document's. -/
theorem Number_any (w : World) (a : Option Addr) (c N : Nat) (l : List UInt8) (hN : N = l.length) (p : Int) (n : Nat) (hl : l.length ≤ 200000000000000) (hr : RdB w a l) (hp : -9223372036854775808 ≤ p ∧ p ≤ 9223372036854775807) (hn : n ≤ 8) :
    Calls Try.prog 58 #[.slice a N c, .int .i64 p, .int .i64 (n : Int)] w fun e w' => e = .returned (.tuple #[.int .u64 (numV l p n : Nat), .bool (numOk l p n)]) ∧ w = w' := by
  subst hN
  by_cases h0 : p < 0
  · have E := hid (show numV l p n = 0 ∧ numOk l p n = false by simp [numV, numOk]; omega)
    go_enter Try.func58, Try.ntmps58
    go_wp2
    go_ret2
    exact ⟨by rw [E.out.1, E.out.2]; rfl, rfl⟩
  · by_cases h2 : l.length < n
    · have hd : decide (l.length < n) = true := by simpa using h2
      have E := hid (show numV l p n = 0 ∧ numOk l p n = false by simp [numV, numOk]; omega)
      go_enter Try.func58, Try.ntmps58
      go_wp2
      go_ret2
      exact ⟨by rw [E.out.1, E.out.2]; rfl, rfl⟩
    · have hd : decide (l.length < n) = false := by simpa using h2
      by_cases h1 : (l.length : Int) - n < p
      · have E := hid (show numV l p n = 0 ∧ numOk l p n = false by simp [numV, numOk]; omega)
        go_enter Try.func58, Try.ntmps58
        go_wp2
        go_ret2
        exact ⟨by rw [E.out.1, E.out.2]; rfl, rfl⟩
      · obtain ⟨q, rfl⟩ := Int.eq_ofNat_of_zero_le (Int.not_lt.1 h0)
        have E := hid (show numV l q n = numTo l q n ∧ numOk l q n = true by simp [numV, numOk]; omega)
        have hq : q + n ≤ l.length := by omega
        go_enter Try.func58, Try.ntmps58
        go_wp2
        go_loop [8, 9] (fun v i => ∃ k : Nat, k ≤ n ∧ i = .int .i64 k ∧ v = .int .u64 (numTo l q k : Nat)) (fun _ i => n - (intOf i).toNat)
        case atStart => exact ⟨0, by omega, rfl, rfl⟩
        case round =>
          obtain ⟨k, hk, rfl, rfl⟩ := hrel
          by_cases hlt : k < n
          · obtain ⟨b, off, rfl, hc⟩ := hr.at_ (by rintro rfl; simp at hq; omega)
            have hck := hc (q + k) (by omega)
            clear hc
            have hb8 := bat_lt l (q + k)
            have hx := numTo_lt l q k
            have hx2 : 256 * numTo l q k < 18446744073709551616 - 255 := by
              have h1 : (256 : Nat) ^ k ≤ 256 ^ 7 := Nat.pow_le_pow_right (by decide) (by omega)
              have h2 : (256 : Nat) ^ 7 = 72057594037927936 := by decide
              omega
            clear hx
            go_wp2
            go_round
            case rel => exact ⟨k + 1, by omega, by go_num, by rw [numTo, Nat.mul_comm, Int.natCast_add, Int.natCast_mul]; rfl⟩
            case measure => simp [intOf]; omega
          · have hkn : k = n := by omega
            have HK := hid hkn; clear hkn
            go_wp2
            go_ret2
            exact ⟨by rw [E.out.1, E.out.2, ← HK.out]; rfl, rfl⟩

/-- The lowest bytes of a number, lowest first. -/
def leTo (v n : Nat) : List UInt8 := (List.range n).map fun j => byteOf (v / 256 ^ j)
theorem leTo_length (v n : Nat) : (leTo v n).length = n := by simp [leTo]
theorem leTo_succ (v n : Nat) : leTo v (n + 1) = leTo v n ++ [byteOf (v / 256 ^ n)] := by simp [leTo, List.range_succ]
theorem bat_leTo (v n k : Nat) (h : k < n) : bat (leTo v n) k = byteOf (v / 256 ^ k) := by simp [bat, leTo, h]
theorem low_byte (v : Nat) : (v : Int) % 256 = ((byteOf v).toNat : Int) := by rw [byteOf, UInt8.toNat_ofNat']; omega

theorem refAdd_any (w : World) (a : Option Addr) (c N : Nat) (l : List UInt8) (hN : N = l.length) (v0 n : Nat) (x : Int) (hx : x = (v0 : Int)) (hl : l.length ≤ 199999999999000) (hr : RdB w a l) (hn : n ≤ 8) (hv : v0 < 18446744073709551616) :
    Calls Try.prog 57 #[.slice a N c, .int .u64 x, .int .i64 (n : Int)] w fun e w' =>
      ∃ A c', e = .returned (.slice A (N + n) c') ∧ OwnB w.heap.size w' A c' (l ++ be v0 n) ∧ Below w.heap.size w w' := by
  subst hN
  subst hx
  go_enter Try.func57, Try.ntmps57
  go_wp2
  go_loopw [1, 7, 8] (fun v s i wr => ∃ (k : Nat) (A : Option Addr) (c' : Nat), k ≤ n ∧ i = .int .i64 k ∧ v = .int .u64 ((v0 / 256 ^ k : Nat) : Int) ∧ s = .slice A k c' ∧ OwnB w.heap.size wr A c' (leTo v0 k) ∧ Below w.heap.size w wr) (fun _ _ i _ => n - (intOf i).toNat)
  case atStart => exact ⟨0, none, 0, by omega, rfl, by simp, rfl, OwnB.nil _ _, Below.refl _ _⟩
  case round =>
    obtain ⟨k, A, c', hk, rfl, rfl, rfl, ho', hb'⟩ := hrel
    have HO' := hid ho'; clear ho'
    have hlk := leTo_length v0 k
    have HLK := hid hlk; clear hlk
    have hsz := hb'.size
    by_cases hlt : k < n
    · have hvk : v0 / 256 ^ k ≤ v0 := Nat.div_le_self _ _
      have e2 : v0 / 256 ^ k / 256 = v0 / 256 ^ (k + 1) := by rw [Nat.div_div_eq_div_mul, Nat.pow_succ]
      have E2 := hid e2; clear e2
      generalize hu : v0 / 256 ^ k = u at *
      have HU := hid hu; clear hu
      have e1 := low_byte u
      go_wp2_with (at_builtin; refine app_bytes rfl (.tmp 16) (.tmp 20) rfl w.heap.size A c' k (leTo v0 k) HLK.out.symm rfl (HO'.out.below ((Below.refl _ _).alloc (Nat.le_refl _) _)) (some ⟨wr.heap.size, 0, none⟩) 1 1 [byteOf u] rfl rfl (RdV.one (v := B8 _)) (k + 1) (by rw [HLK.out]; rfl) (by rw [HLK.out]; simp; omega) w (hb'.alloc hsz _) (by simp; omega) ?_; intro A1 c1 w2 ho2 hb2 _ _; have HO2 := hid ho2; clear ho2)
      go_roundw
      case rel => exact ⟨k + 1, A1, c1, by omega, by go_num, by rw [← E2.out, Int.natCast_ediv]; rfl, rfl, by have := HO2.out; rw [← HU.out, ← leTo_succ] at this; exact this, hb2⟩
      case measure => simp [intOf]; omega
    · obtain rfl : k = n := by omega
      obtain ⟨wo, rfl⟩ : ∃ wo : World, wo = wr := ⟨_, rfl⟩
      have hlow := RdB.below (w' := wo) HO'.out.rd (Below.refl _ _)
      have HL := hid hlow; clear hlow
      go_wp2_with (at_builtin; refine app_bytes rfl (.tmp 24) (.tmp 25) rfl wo.heap.size none 0 0 [] rfl rfl (OwnB.nil _ _) a l.length c l rfl rfl (hr.below hb') l.length (by simp) (by simp; omega) wo (Below.refl _ _) (Nat.le_refl _) ?_; intro A1 c1 w2 ho2 hb2 _ _; have HO2 := hid ho2; clear ho2)
      have hsz2 := hb2.size
      go_loopw [9, 10] (fun s i wr => ∃ (j : Nat) (A2 : Option Addr) (c2 : Nat), j ≤ k ∧ i = .int .i64 ((k : Int) - 1 - j) ∧ s = .slice A2 (l.length + j) c2 ∧ OwnB wo.heap.size wr A2 c2 (l ++ beTo v0 k j) ∧ Below wo.heap.size wo wr) (fun _ i _ => (intOf i + 1).toNat)
      case atStart => exact ⟨0, A1, c1, by omega, by simp, rfl, by simpa [beTo] using HO2.out, hb2⟩
      case round =>
        obtain ⟨j, A2, c2, hj, rfl, rfl, ho3, hb3⟩ := hrel
        have HO3 := hid ho3; clear ho3
        have hlj : (l ++ beTo v0 k j).length = l.length + j := by simp [beTo_length]
        have HLJ := hid hlj; clear hlj
        have hsz3 := hb3.size
        by_cases hjk : j < k
        · obtain ⟨b, off, rfl, hc⟩ := HL.out.at_ (by intro e; have := HLK.out; rw [e] at this; simp at this; omega)
          have hck := cell_below hb3 (hc (k - 1 - j) (by rw [HLK.out]; omega))
          rw [bat_leTo _ _ _ (by omega)] at hck
          clear hc
          go_wp2_with (at_builtin; go_loud (refine app_bytes rfl (.tmp 33) (.tmp 38) rfl wo.heap.size A2 c2 (l.length + j) (l ++ beTo v0 k j) HLJ.out.symm rfl (HO3.out.below ((Below.refl _ _).alloc (Nat.le_refl _) _)) (some ⟨wr.heap.size, 0, none⟩) 1 1 [byteOf (v0 / 256 ^ (k - 1 - j))] rfl rfl (RdV.one (v := B8 _)) (l.length + j + 1) (by rw [HLJ.out]; rfl) (by rw [HLJ.out]; simp; omega) wo (hb3.alloc hsz3 _) (by simp; omega) ?_; intro A4 c4 w4 ho4 hb4 _ _; have HO4 := hid ho4; clear ho4))
          go_roundw
          case rel => exact ⟨j + 1, A4, c4, by omega, by congr 1; omega, rfl, by have := HO4.out; rw [List.append_assoc, ← beTo_succ] at this; exact this, hb4⟩
          case measure => simp [intOf]; omega
        · obtain rfl : j = k := by omega
          go_wp2
          go_ret
          exact ⟨A2, c2, rfl, HO3.out.mono hsz, hb'.trans (hb3.mono hsz)⟩

end Go.Proofs.Ytknhfaplddgnlaa
