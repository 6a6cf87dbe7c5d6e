/- Plain laws of the check sum: turned bit by bit, it is linear, goes on, and sees each change within four bytes. -/
import Derived.Test.YtknhfaplddgnlaaBase
namespace Go.Proofs.Ytknhfaplddgnlaa
open Go.RowKit
set_option linter.unusedVariables false

def crcTurn (r : Nat) : Nat := if r % 2 = 1 then (r / 2) ^^^ 2197175160 else r / 2
def crcTurns : Nat → Nat → Nat
  | 0, r => r
  | n + 1, r => crcTurn (crcTurns n r)
def crcByte (r : Nat) (b : UInt8) : Nat := crcTurns 8 (r ^^^ b.toNat)
def crcTo (s : Nat) (l : List UInt8) : Nat → Nat
  | 0 => 4294967295 - s
  | n + 1 => crcByte (crcTo s l n) (bat l n)
def crcMore (s : Nat) (l : List UInt8) : Nat := 4294967295 - crcTo s l l.length

theorem xor_lt32 {a b : Nat} (ha : a < 4294967296) (hb : b < 4294967296) : a ^^^ b < 4294967296 := Nat.xor_lt_two_pow (n := 32) ha hb
theorem crcTurn_lt {r : Nat} (h : r < 4294967296) : crcTurn r < 4294967296 := by
  unfold crcTurn; split
  · exact xor_lt32 (by omega) (by omega)
  · omega
theorem crcTurns_lt {r : Nat} (h : r < 4294967296) : ∀ n, crcTurns n r < 4294967296
  | 0 => h
  | n + 1 => crcTurn_lt (crcTurns_lt h n)
theorem crcByte_lt {r : Nat} (h : r < 4294967296) (b : UInt8) : crcByte r b < 4294967296 := crcTurns_lt (xor_lt32 h (by have := b.toNat_lt; omega)) 8
theorem crcTo_lt {s : Nat} (l : List UInt8) : ∀ n, crcTo s l n < 4294967296
  | 0 => by unfold crcTo; omega
  | n + 1 => crcByte_lt (crcTo_lt l n) _
theorem crcMore_lt (s : Nat) (l : List UInt8) : crcMore s l < 4294967296 := by unfold crcMore; omega

theorem u32_xor {a b : Nat} (ha : a < 4294967296) (hb : b < 4294967296) : bits .xor .u32 (a : Int) (b : Int) = ((a ^^^ b : Nat) : Int) := by
  have h : IntKind.u32.bits = 32 := rfl
  simp only [bits, h, BitVec.ofInt_natCast, BitVec.toNat_xor, BitVec.toNat_ofNat]
  rw [Nat.mod_eq_of_lt ha, Nat.mod_eq_of_lt hb, IntWalk.u32_in]
  have := xor_lt32 ha hb
  omega
theorem u8_xor {a b : Nat} (ha : a < 256) (hb : b < 256) : bits .xor .u8 (a : Int) (b : Int) = ((a ^^^ b : Nat) : Int) := by
  have h : IntKind.u8.bits = 8 := rfl
  simp only [bits, h, BitVec.ofInt_natCast, BitVec.toNat_xor, BitVec.toNat_ofNat]
  rw [Nat.mod_eq_of_lt ha, Nat.mod_eq_of_lt hb, IntWalk.u8_in]
  have := Nat.xor_lt_two_pow (n := 8) ha hb
  omega
theorem xor_max {a : Nat} (ha : a < 4294967296) : 4294967295 ^^^ a = 4294967295 - a := by
  have := BitVec.toNat_not (x := BitVec.ofNat 32 a)
  rw [BitVec.toNat_ofNat, Nat.mod_eq_of_lt ha] at this
  rw [← BitVec.allOnes_xor (x := BitVec.ofNat 32 a), BitVec.toNat_xor, BitVec.toNat_ofNat, BitVec.toNat_allOnes, Nat.mod_eq_of_lt ha] at this
  omega

/-! Linear. -/
theorem xor_mod2 (a b : Nat) : (a ^^^ b) % 2 = (a % 2 + b % 2) % 2 := by
  have h := Nat.testBit_xor (x := a) (y := b) (i := 0)
  simp only [Nat.testBit_zero] at h
  rcases Nat.mod_two_eq_zero_or_one a with ha | ha <;> rcases Nat.mod_two_eq_zero_or_one b with hb | hb <;> rcases Nat.mod_two_eq_zero_or_one (a ^^^ b) with hc | hc <;> simp [ha, hb, hc] at h ⊢
theorem xor_zero_iff {a b : Nat} (h : a ^^^ b = 0) : a = b := by
  have := congrArg (fun x => x ^^^ b) h
  simpa [Nat.xor_assoc] using this
theorem crcTurn_xor (a b : Nat) : crcTurn (a ^^^ b) = crcTurn a ^^^ crcTurn b := by
  have h := xor_mod2 a b
  unfold crcTurn
  rw [Nat.xor_div_two]
  have hx : ∀ x y z : Nat, x ^^^ z ^^^ y = x ^^^ y ^^^ z := fun x y z => by rw [Nat.xor_assoc, Nat.xor_comm z, ← Nat.xor_assoc]
  rcases Nat.mod_two_eq_zero_or_one a with ha | ha <;> rcases Nat.mod_two_eq_zero_or_one b with hb | hb
  · rw [if_neg (by omega), if_neg (by omega), if_neg (by omega)]
  · rw [if_pos (by omega), if_neg (by omega), if_pos (by omega), Nat.xor_assoc]
  · rw [if_pos (by omega), if_pos (by omega), if_neg (by omega), hx]
  · rw [if_neg (by omega), if_pos (by omega), if_pos (by omega), ← Nat.xor_assoc, hx (a / 2), Nat.xor_assoc _ 2197175160, Nat.xor_self, Nat.xor_zero]
theorem crcTurns_xor (a b : Nat) : ∀ n, crcTurns n (a ^^^ b) = crcTurns n a ^^^ crcTurns n b
  | 0 => rfl
  | n + 1 => by simp only [crcTurns, crcTurns_xor a b n, crcTurn_xor]
theorem crcTurn_zero {r : Nat} (h : r < 4294967296) (h0 : crcTurn r = 0) : r = 0 := by
  unfold crcTurn at h0
  split at h0
  · have := xor_zero_iff h0
    omega
  · omega
theorem crcTurns_zero {r : Nat} (h : r < 4294967296) : ∀ n, crcTurns n r = 0 → r = 0
  | 0, h0 => h0
  | n + 1, h0 => crcTurns_zero h n (crcTurn_zero (crcTurns_lt h n) h0)
theorem crcTurns_of_zero : ∀ n, crcTurns n 0 = 0
  | 0 => rfl
  | n + 1 => by simp [crcTurns, crcTurns_of_zero n, crcTurn]
theorem crcTurns_add (r m : Nat) : ∀ n, crcTurns (m + n) r = crcTurns n (crcTurns m r)
  | 0 => rfl
  | n + 1 => by
    show crcTurn (crcTurns (m + n) r) = _
    rw [crcTurns_add r m n]; rfl
theorem crcTurns_shift (x y : Nat) : ∀ k, crcTurns k (x ^^^ y * 2 ^ k) = crcTurns k x ^^^ y
  | 0 => by simp [crcTurns]
  | k + 1 => by
    have e : y * 2 ^ (k + 1) = (y * 2) * 2 ^ k := by rw [Nat.pow_succ, Nat.mul_comm (2 ^ k) 2, Nat.mul_assoc]
    have ht : crcTurn (y * 2) = y := by
      unfold crcTurn
      rw [if_neg (by omega)]
      omega
    simp only [crcTurns]
    rw [e, crcTurns_shift x (y * 2) k, crcTurn_xor, ht]

/-! As the document turns it. -/
/-- k bits of a byte, one by one. -/
def refBits (r b : Nat) : Nat → Nat
  | 0 => r
  | k + 1 => if b / 2 ^ k % 2 = refBits r b k % 2 then refBits r b k / 2 else (refBits r b k / 2) ^^^ 2197175160
theorem refBits_lt {r : Nat} (h : r < 4294967296) (b : Nat) : ∀ k, refBits r b k < 4294967296
  | 0 => h
  | k + 1 => by
    have := refBits_lt h b k
    unfold refBits; split
    · omega
    · exact xor_lt32 (by omega) (by omega)
theorem refBits_turns (r b : Nat) : ∀ k, crcTurns k (r ^^^ b) = refBits r b k ^^^ b / 2 ^ k
  | 0 => by simp [crcTurns, refBits]
  | k + 1 => by
    simp only [crcTurns]
    rw [refBits_turns r b k, refBits, Nat.pow_succ, ← Nat.div_div_eq_div_mul]
    generalize refBits r b k = x
    generalize b / 2 ^ k = y
    have h := xor_mod2 x y
    unfold crcTurn
    rw [Nat.xor_div_two]
    by_cases e : y % 2 = x % 2
    · rw [if_neg (by omega), if_pos e]
    · rw [if_pos (by omega), if_neg e, Nat.xor_assoc, Nat.xor_comm (y / 2), Nat.xor_assoc]
theorem refBits_byte (r : Nat) (b : UInt8) : refBits r b.toNat 8 = crcByte r b := by
  have := refBits_turns r b.toNat 8
  have hb := b.toNat_lt
  rw [show b.toNat / 2 ^ 8 = 0 by omega, Nat.xor_zero] at this
  exact this.symm

/-! Over lists. -/
theorem crcTo_append (s : Nat) (a b : List UInt8) : ∀ n, crcTo s (a ++ b) (a.length + n) = crcTo (4294967295 - crcTo s a a.length) b n
  | 0 => by
    have h := crcTo_lt (s := s) a a.length
    have e : ∀ k, k ≤ a.length → crcTo s (a ++ b) k = crcTo s a k := by
      intro k hk
      induction k with
      | zero => rfl
      | succ k ih => simp only [crcTo]; rw [ih (by omega)]; congr 1; simp [bat, List.getElem?_append_left (show k < a.length by omega)]
    simp only [crcTo, Nat.add_zero]
    rw [e _ (Nat.le_refl _)]
    omega
  | n + 1 => by
    show crcByte (crcTo s (a ++ b) (a.length + n)) (bat (a ++ b) (a.length + n)) = _
    rw [crcTo_append s a b n, crcTo]
    congr 1
    simp [bat, List.getElem?_append_right]
theorem crcMore_append (s : Nat) (a b : List UInt8) : crcMore s (a ++ b) = crcMore (crcMore s a) b := by
  unfold crcMore
  rw [List.length_append, crcTo_append]
theorem crcTo_xor3 (a b c x : List UInt8) (n : Nat) (hx : ∀ k, k < n → bat x k = bat a k ^^^ bat b k ^^^ bat c k) : crcTo 0 x n = crcTo 0 a n ^^^ crcTo 0 b n ^^^ crcTo 0 c n := by
  induction n with
  | zero => simp [crcTo]
  | succ n ih =>
    simp only [crcTo, crcByte]
    rw [ih (fun k hk => hx k (by omega)), hx n (by omega), ← crcTurns_xor, ← crcTurns_xor]
    congr 1
    simp only [UInt8.toNat_xor]
    generalize crcTo 0 a n = p
    generalize crcTo 0 b n = q
    generalize crcTo 0 c n = r
    generalize (bat a n).toNat = i
    generalize (bat b n).toNat = j
    generalize (bat c n).toNat = k
    apply Nat.eq_of_testBit_eq
    intro m
    simp only [Nat.testBit_xor]
    cases p.testBit m <;> cases q.testBit m <;> cases r.testBit m <;> cases i.testBit m <;> cases j.testBit m <;> cases k.testBit m <;> rfl
theorem crcMore_xor (l : List UInt8) : crcMore 0 l = 4294967295 ^^^ crcTo 0 l l.length := by
  rw [xor_max (crcTo_lt l _)]; rfl
theorem crcMore_xor3 (a b c x : List UInt8) (n : Nat) (ha : a.length = n) (hb : b.length = n) (hc : c.length = n) (hl : x.length = n) (hx : ∀ k, k < n → bat x k = bat a k ^^^ bat b k ^^^ bat c k) :
    crcMore 0 x = crcMore 0 a ^^^ crcMore 0 b ^^^ crcMore 0 c := by
  rw [crcMore_xor, crcMore_xor, crcMore_xor, crcMore_xor, ha, hb, hc, hl, crcTo_xor3 a b c x n hx]
  generalize crcTo 0 a n = p
  generalize crcTo 0 b n = q
  generalize crcTo 0 c n = r
  apply Nat.eq_of_testBit_eq
  intro m
  simp only [Nat.testBit_xor]
  cases (4294967295 : Nat).testBit m <;> cases p.testBit m <;> cases q.testBit m <;> cases r.testBit m <;> rfl

/-! A change within four bytes. -/
/-- The difference of two lists' registers. -/
theorem crcTo_diff (s : Nat) (a b : List UInt8) (n : Nat) : crcTo s a (n + 1) ^^^ crcTo s b (n + 1) = crcTurns 8 ((crcTo s a n ^^^ crcTo s b n) ^^^ ((bat a n).toNat ^^^ (bat b n).toNat)) := by
  simp only [crcTo, crcByte]
  rw [← crcTurns_xor]
  congr 1
  apply Nat.eq_of_testBit_eq
  intro m
  simp only [Nat.testBit_xor]
  generalize (crcTo s a n).testBit m = p
  generalize (crcTo s b n).testBit m = q
  generalize (bat a n).toNat.testBit m = i
  generalize (bat b n).toNat.testBit m = j
  cases p <;> cases q <;> cases i <;> cases j <;> rfl
/-- The word of the changed bytes. -/
def diffW (a b : List UInt8) (p : Nat) : Nat → Nat
  | 0 => 0
  | m + 1 => diffW a b p m ^^^ ((bat a (p + m)).toNat ^^^ (bat b (p + m)).toNat) * 2 ^ (8 * m)
theorem diffW_lt (a b : List UInt8) (p : Nat) : ∀ m, diffW a b p m < 2 ^ (8 * m)
  | 0 => by simp [diffW]
  | m + 1 => by
    have h := diffW_lt a b p m
    have hx : (bat a (p + m)).toNat ^^^ (bat b (p + m)).toNat < 2 ^ 8 := Nat.xor_lt_two_pow (bat_lt a _) (bat_lt b _)
    refine Nat.xor_lt_two_pow (Nat.lt_of_lt_of_le h (Nat.pow_le_pow_right (by decide) (by omega))) ?_
    rw [show 8 * (m + 1) = 8 + 8 * m by omega, Nat.pow_add]
    exact Nat.mul_lt_mul_of_pos_right hx (Nat.pow_pos (by decide))
theorem crc_word (s : Nat) (a b : List UInt8) (p : Nat) (h0 : crcTo s a p = crcTo s b p) : ∀ m, crcTo s a (p + m) ^^^ crcTo s b (p + m) = crcTurns (8 * m) (diffW a b p m)
  | 0 => by simp [h0, diffW, crcTurns]
  | m + 1 => by
    rw [← Nat.add_assoc, crcTo_diff, crc_word s a b p h0 m, diffW, show 8 * (m + 1) = 8 * m + 8 by omega, crcTurns_add, crcTurns_shift]
theorem diffW_zero (a b : List UInt8) (p : Nat) : ∀ m, diffW a b p m = 0 → ∀ k, k < m → bat a (p + k) = bat b (p + k)
  | 0, _, k, hk => by omega
  | m + 1, h0, k, hk => by
    have h := diffW_lt a b p m
    rw [diffW] at h0
    have e := xor_zero_iff h0
    have hz : (bat a (p + m)).toNat ^^^ (bat b (p + m)).toNat = 0 := by
      rcases Nat.eq_zero_or_pos ((bat a (p + m)).toNat ^^^ (bat b (p + m)).toNat) with h1 | h1
      · exact h1
      · have := Nat.mul_le_mul_right (2 ^ (8 * m)) h1
        omega
    rcases Nat.lt_succ_iff_lt_or_eq.1 hk with h1 | h1
    · refine diffW_zero a b p m ?_ k h1
      rw [e, hz, Nat.zero_mul]
    · subst h1
      exact UInt8.toNat_inj.1 (xor_zero_iff hz)
theorem crcTo_same (s : Nat) (a b : List UInt8) (n : Nat) (h : ∀ k, k < n → bat a k = bat b k) : crcTo s a n = crcTo s b n := by
  induction n with
  | zero => rfl
  | succ n ih => simp only [crcTo]; rw [ih (fun k hk => h k (by omega)), h n (by omega)]
theorem crcTo_back (s : Nat) (a b : List UInt8) (p : Nat) : ∀ m, (∀ k, k < m → bat a (p + k) = bat b (p + k)) → crcTo s a (p + m) = crcTo s b (p + m) → crcTo s a p = crcTo s b p
  | 0, _, h => h
  | m + 1, hk, h => by
    refine crcTo_back s a b p m (fun k h1 => hk k (by omega)) ?_
    have e := crcTo_diff s a b (p + m)
    rw [Nat.add_assoc, h, Nat.xor_self, hk m (by omega), Nat.xor_self, Nat.xor_zero] at e
    exact xor_zero_iff (crcTurns_zero (xor_lt32 (crcTo_lt _ _) (crcTo_lt _ _)) 8 e.symm)
/-- Lists that differ within four bytes next to each other at the most have one sum just if they are one. -/
theorem crc_burst (a b : List UInt8) (p m : Nat) (hl : a.length = b.length) (hp : p + m ≤ a.length) (hm : m ≤ 4) (h1 : ∀ k, k < p → bat a k = bat b k) (h2 : ∀ k, p + m ≤ k → k < a.length → bat a k = bat b k) :
    crcMore 0 a = crcMore 0 b ↔ a = b := by
  constructor
  · intro h
    have e : crcTo 0 a a.length = crcTo 0 b a.length := by
      have ha := crcTo_lt (s := 0) a a.length
      have hb := crcTo_lt (s := 0) b b.length
      unfold crcMore at h
      rw [← hl] at h hb
      omega
    have e2 : crcTo 0 a (p + m) = crcTo 0 b (p + m) := by
      refine crcTo_back 0 a b (p + m) (a.length - (p + m)) (fun k hk => h2 _ (by omega) (by omega)) ?_
      rw [show p + m + (a.length - (p + m)) = a.length by omega]
      exact e
    have w := crc_word 0 a b p (crcTo_same 0 a b p h1) m
    rw [e2, Nat.xor_self] at w
    have hlt : diffW a b p m < 4294967296 := Nat.lt_of_lt_of_le (diffW_lt a b p m) (by
      have : (2 : Nat) ^ (8 * m) ≤ 2 ^ 32 := Nat.pow_le_pow_right (by decide) (by omega)
      omega)
    have z := diffW_zero a b p m (crcTurns_zero hlt (8 * m) w.symm)
    apply List.ext_getElem hl
    intro i hi hj
    have hb : bat a i = bat b i := by
      rcases Nat.lt_or_ge i p with h | h
      · exact h1 i h
      · rcases Nat.lt_or_ge i (p + m) with h' | h'
        · have := z (i - p) (by omega)
          rwa [show p + (i - p) = i by omega] at this
        · exact h2 i h' hi
    simpa [bat, List.getElem?_eq_getElem hi, List.getElem?_eq_getElem hj] using hb
  · rintro rfl; rfl
end Go.Proofs.Ytknhfaplddgnlaa
