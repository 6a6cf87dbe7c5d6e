/- Texts joined: Oct3, SumsPure, Sums, Sup. -/
import Derived.Lib.SlBytesConst
import Derived.Test.YtahlhdhljjpeoaaGBitsErrors1
import Derived.Test.YtahlhdhljjpeoaaGBitsErrors2
import Derived.Test.YtahlhdhljjpeoaaGBitsErrors4
/- Plain laws of octets: what is put behind bytes is read back; numbers stand in bytes in their own order. -/
namespace Go.Proofs.Ytahlhdhljjpeoaa
open Go.RowKit
set_option linter.unusedVariables false

theorem bat_right (X Y : List UInt8) (k p : Nat) (hp : p = X.length + k) : bat (X ++ Y) p = bat Y k := by
  subst hp
  simp [bat, List.getElem?_append_right]
theorem bat_left (X Y : List UInt8) (k : Nat) (h : k < X.length) : bat (X ++ Y) k = bat X k := by
  simp [bat, List.getElem?_append_left h]
theorem bat_be (v n k : Nat) (h : k < n) : bat (be v n) k = byteOf (v / 256 ^ (n - 1 - k)) := by simp [bat, be, beTo, h]
theorem byteOf_toNat (n : Nat) : (byteOf n).toNat = n % 256 := by simp [byteOf]
theorem numTo_mid (X Y : List UInt8) (v n : Nat) : ∀ k, k ≤ n → numTo (X ++ (be v n ++ Y)) X.length k = v / 256 ^ (n - k) % 256 ^ k
  | 0, _ => by simp [numTo, Nat.mod_one]
  | k + 1, h => by
    have ih := numTo_mid X Y v n k (by omega)
    rw [numTo, ih, bat_right X _ k _ rfl, bat_left _ _ _ (by rw [be_length]; omega), bat_be _ _ _ (by omega), byteOf_toNat]
    have e1 : n - k = (n - 1 - k) + 1 := by omega
    have e2 : n - (k + 1) = n - 1 - k := by omega
    rw [e1, e2, Nat.pow_succ, ← Nat.div_div_eq_div_mul]
    generalize v / 256 ^ (n - 1 - k) = u
    rw [Nat.pow_succ, Nat.mul_comm (256 ^ k) 256, Nat.mod_mul]
    omega
theorem numV_at (X Y L : List UInt8) (v n : Nat) (p : Int) (hp : p = (X.length : Int)) (hL : L = X ++ (be v n ++ Y)) : numOk L p n = true ∧ numV L p n = v % 256 ^ n := by
  subst hp hL
  have h : numOk (X ++ (be v n ++ Y)) (X.length : Int) n = true := by simp [numOk, be_length]; omega
  refine ⟨h, ?_⟩
  rw [numV, if_pos h, Int.toNat_natCast, numTo_mid X Y v n n (Nat.le_refl _)]
  simp
theorem txt_at (X Y L T : List UInt8) (p : Int) (hp : p = (X.length : Int)) (hL : L = X ++ (be T.length 2 ++ (T ++ Y))) (hT : T.length ≤ 65535) :
    txtOk L p = true ∧ txtV L p = T ∧ txtEnd L p = p + 2 + T.length := by
  obtain ⟨h1, h2⟩ := numV_at X (T ++ Y) L T.length 2 p hp hL
  rw [Nat.mod_eq_of_lt (by omega)] at h2
  have hlen : L.length = X.length + 2 + T.length + Y.length := by rw [hL]; simp [be_length]; omega
  have h : txtOk L p = true := by
    rw [txtOk, h1, h2, hlen, hp]
    simp
    omega
  refine ⟨h, ?_, ?_⟩
  · rw [txtV, if_pos h, h2, hp, Int.toNat_natCast, hL]
    have e : X ++ (be T.length 2 ++ (T ++ Y)) = (X ++ be T.length 2) ++ (T ++ Y) := by simp
    rw [e, List.drop_left' (by simp [be_length]), List.take_left' rfl]
  · rw [txtEnd, if_pos h, h2]

/-- The first byte, and the others. -/
theorem be_cons (v n : Nat) : be v (n + 1) = byteOf (v / 256 ^ n) :: be v n := by
  simp only [be, beTo, List.range_succ_eq_map, List.map_cons, List.map_map]
  congr 1
  apply List.map_congr_left
  intro j hj
  simp only [Function.comp, List.mem_range] at hj ⊢
  congr 3
  omega
theorem be_mod (v n : Nat) : be (v % 256 ^ n) n = be v n := by
  simp only [be, beTo]
  apply List.map_congr_left
  intro j hj
  simp only [List.mem_range] at hj
  have e : (256 : Nat) ^ n = 256 ^ (n - 1 - j) * 256 ^ (j + 1) := by rw [← Nat.pow_add]; congr 1; omega
  rw [e, Nat.mod_mul_right_div_self]
  simp only [byteOf]
  apply UInt8.toNat_inj.1
  simp only [UInt8.toNat_ofNat', Nat.pow_succ]
  exact Nat.mod_mul_left_mod _ _ _
theorem be_inj (n : Nat) : ∀ a b : Nat, a < 256 ^ n → b < 256 ^ n → be a n = be b n → a = b := by
  induction n with
  | zero => intro a b ha hb _; simp at ha hb; omega
  | succ n ih =>
    intro a b ha hb h
    rw [be_cons, be_cons] at h
    obtain ⟨h1, h2⟩ := List.cons.inj h
    rw [← be_mod a, ← be_mod b] at h2
    have h3 := ih _ _ (Nat.mod_lt _ (Nat.pow_pos (by decide))) (Nat.mod_lt _ (Nat.pow_pos (by decide))) h2
    have h4 := congrArg UInt8.toNat h1
    rw [byteOf_toNat, byteOf_toNat] at h4
    rw [Nat.pow_succ] at ha hb
    rw [Nat.mod_eq_of_lt (Nat.div_lt_of_lt_mul ha), Nat.mod_eq_of_lt (Nat.div_lt_of_lt_mul hb)] at h4
    rw [← Nat.div_add_mod a (256 ^ n), ← Nat.div_add_mod b (256 ^ n), h3, h4]
theorem be_lt (n : Nat) : ∀ a b : Nat, a < 256 ^ n → b < 256 ^ n → (be a n < be b n ↔ a < b) := by
  induction n with
  | zero => intro a b ha hb; simp at ha hb; subst ha hb; simp [be, beTo]
  | succ n ih =>
    intro a b ha hb
    rw [be_cons, be_cons, List.cons_lt_cons_iff, ← be_mod a, ← be_mod b]
    have hp : 0 < 256 ^ n := Nat.pow_pos (by decide)
    rw [ih _ _ (Nat.mod_lt _ hp) (Nat.mod_lt _ hp), UInt8.lt_iff_toNat_lt, ← UInt8.toNat_inj, byteOf_toNat, byteOf_toNat]
    rw [Nat.pow_succ] at ha hb
    rw [Nat.mod_eq_of_lt (Nat.div_lt_of_lt_mul ha), Nat.mod_eq_of_lt (Nat.div_lt_of_lt_mul hb)]
    have ea := Nat.div_add_mod a (256 ^ n)
    have eb := Nat.div_add_mod b (256 ^ n)
    have la := Nat.mod_lt a hp
    have lb := Nat.mod_lt b hp
    generalize a / 256 ^ n = x at *
    generalize b / 256 ^ n = y at *
    generalize a % 256 ^ n = r at *
    generalize b % 256 ^ n = s at *
    generalize 256 ^ n = m at *
    subst ea eb
    constructor
    · rintro (h | ⟨rfl, h⟩)
      · have : m * (x + 1) ≤ m * y := Nat.mul_le_mul_left _ h
        rw [Nat.mul_add] at this
        omega
      · omega
    · intro h
      rcases Nat.lt_trichotomy x y with h1 | h1 | h1
      · exact .inl h1
      · subst h1; exact .inr ⟨rfl, by omega⟩
      · have : m * (y + 1) ≤ m * x := Nat.mul_le_mul_left _ h1
        rw [Nat.mul_add] at this
        omega
theorem bytesLess_iff : ∀ (l m : List UInt8), Op.bytesLess l m = true ↔ l < m
  | l, [] => by cases l <;> simp [Op.bytesLess]
  | [], b :: m => by simp [Op.bytesLess]
  | a :: l, b :: m => by
    simp only [Op.bytesLess, Bool.or_eq_true, decide_eq_true_eq, Bool.and_eq_true, beq_iff_eq, List.cons_lt_cons_iff, bytesLess_iff l m]
theorem be_less (a b : Nat) (ha : a < 18446744073709551616) (hb : b < 18446744073709551616) : Op.bytesLess (be a 8) (be b 8) = decide (a < b) := by
  have h : (256 : Nat) ^ 8 = 18446744073709551616 := by decide
  rw [Bool.eq_iff_iff, bytesLess_iff, be_lt 8 a b (by omega) (by omega), decide_eq_true_eq]
theorem be_same (a b : Nat) (ha : a < 18446744073709551616) (hb : b < 18446744073709551616) : (be a 8 == be b 8) = ((a : Int) == (b : Int)) := by
  have h : (256 : Nat) ^ 8 = 18446744073709551616 := by decide
  rw [Bool.eq_iff_iff, beq_iff_eq, beq_iff_eq]
  constructor
  · intro e; rw [be_inj 8 a b (by omega) (by omega) e]
  · intro e; rw [Int.ofNat_inj.1 e]
end Go.Proofs.Ytahlhdhljjpeoaa

/- Plain laws of the check sum: turned bit by bit, it is linear, goes on, and sees each change within four bytes. -/
namespace Go.Proofs.Ytahlhdhljjpeoaa
open Go.RowKit
set_option linter.unusedVariables false

def crcTurn (r : Nat) : Nat := if r % 2 = 1 then (r / 2) ^^^ 2197175160 else r / 2
def crcTurns : Nat → Nat → Nat
  | 0, r => r
  | n + 1, r => crcTurn (crcTurns n r)
def crcByte (r : Nat) (b : UInt8) : Nat := crcTurns 8 (r ^^^ b.toNat)
def crcTo (s : Nat) (l : List UInt8) : Nat → Nat
  | 0 => 4294967295 - s
  | n + 1 => crcByte (crcTo s l n) (bat l n)
def crcMore (s : Nat) (l : List UInt8) : Nat := 4294967295 - crcTo s l l.length

theorem xor_lt32 {a b : Nat} (ha : a < 4294967296) (hb : b < 4294967296) : a ^^^ b < 4294967296 := Nat.xor_lt_two_pow (n := 32) ha hb
theorem crcTurn_lt {r : Nat} (h : r < 4294967296) : crcTurn r < 4294967296 := by
  unfold crcTurn; split
  · exact xor_lt32 (by omega) (by omega)
  · omega
theorem crcTurns_lt {r : Nat} (h : r < 4294967296) : ∀ n, crcTurns n r < 4294967296
  | 0 => h
  | n + 1 => crcTurn_lt (crcTurns_lt h n)
theorem crcByte_lt {r : Nat} (h : r < 4294967296) (b : UInt8) : crcByte r b < 4294967296 := crcTurns_lt (xor_lt32 h (by have := b.toNat_lt; omega)) 8
theorem crcTo_lt {s : Nat} (l : List UInt8) : ∀ n, crcTo s l n < 4294967296
  | 0 => by unfold crcTo; omega
  | n + 1 => crcByte_lt (crcTo_lt l n) _
theorem crcMore_lt (s : Nat) (l : List UInt8) : crcMore s l < 4294967296 := by unfold crcMore; omega

theorem u32_xor {a b : Nat} (ha : a < 4294967296) (hb : b < 4294967296) : bits .xor .u32 (a : Int) (b : Int) = ((a ^^^ b : Nat) : Int) := by
  have h : IntKind.u32.bits = 32 := rfl
  simp only [bits, h, BitVec.ofInt_natCast, BitVec.toNat_xor, BitVec.toNat_ofNat]
  rw [Nat.mod_eq_of_lt ha, Nat.mod_eq_of_lt hb, IntWalk.u32_in]
  have := xor_lt32 ha hb
  omega
theorem u8_xor {a b : Nat} (ha : a < 256) (hb : b < 256) : bits .xor .u8 (a : Int) (b : Int) = ((a ^^^ b : Nat) : Int) := by
  have h : IntKind.u8.bits = 8 := rfl
  simp only [bits, h, BitVec.ofInt_natCast, BitVec.toNat_xor, BitVec.toNat_ofNat]
  rw [Nat.mod_eq_of_lt ha, Nat.mod_eq_of_lt hb, IntWalk.u8_in]
  have := Nat.xor_lt_two_pow (n := 8) ha hb
  omega
theorem xor_max {a : Nat} (ha : a < 4294967296) : 4294967295 ^^^ a = 4294967295 - a := by
  have := BitVec.toNat_not (x := BitVec.ofNat 32 a)
  rw [BitVec.toNat_ofNat, Nat.mod_eq_of_lt ha] at this
  rw [← BitVec.allOnes_xor (x := BitVec.ofNat 32 a), BitVec.toNat_xor, BitVec.toNat_ofNat, BitVec.toNat_allOnes, Nat.mod_eq_of_lt ha] at this
  omega

/-! Linear. -/
theorem xor_mod2 (a b : Nat) : (a ^^^ b) % 2 = (a % 2 + b % 2) % 2 := by
  have h := Nat.testBit_xor (x := a) (y := b) (i := 0)
  simp only [Nat.testBit_zero] at h
  rcases Nat.mod_two_eq_zero_or_one a with ha | ha <;> rcases Nat.mod_two_eq_zero_or_one b with hb | hb <;> rcases Nat.mod_two_eq_zero_or_one (a ^^^ b) with hc | hc <;> simp [ha, hb, hc] at h ⊢
theorem xor_zero_iff {a b : Nat} (h : a ^^^ b = 0) : a = b := by
  have := congrArg (fun x => x ^^^ b) h
  simpa [Nat.xor_assoc] using this
theorem crcTurn_xor (a b : Nat) : crcTurn (a ^^^ b) = crcTurn a ^^^ crcTurn b := by
  have h := xor_mod2 a b
  unfold crcTurn
  rw [Nat.xor_div_two]
  have hx : ∀ x y z : Nat, x ^^^ z ^^^ y = x ^^^ y ^^^ z := fun x y z => by rw [Nat.xor_assoc, Nat.xor_comm z, ← Nat.xor_assoc]
  rcases Nat.mod_two_eq_zero_or_one a with ha | ha <;> rcases Nat.mod_two_eq_zero_or_one b with hb | hb
  · rw [if_neg (by omega), if_neg (by omega), if_neg (by omega)]
  · rw [if_pos (by omega), if_neg (by omega), if_pos (by omega), Nat.xor_assoc]
  · rw [if_pos (by omega), if_pos (by omega), if_neg (by omega), hx]
  · rw [if_neg (by omega), if_pos (by omega), if_pos (by omega), ← Nat.xor_assoc, hx (a / 2), Nat.xor_assoc _ 2197175160, Nat.xor_self, Nat.xor_zero]
theorem crcTurns_xor (a b : Nat) : ∀ n, crcTurns n (a ^^^ b) = crcTurns n a ^^^ crcTurns n b
  | 0 => rfl
  | n + 1 => by simp only [crcTurns, crcTurns_xor a b n, crcTurn_xor]
theorem crcTurn_zero {r : Nat} (h : r < 4294967296) (h0 : crcTurn r = 0) : r = 0 := by
  unfold crcTurn at h0
  split at h0
  · have := xor_zero_iff h0
    omega
  · omega
theorem crcTurns_zero {r : Nat} (h : r < 4294967296) : ∀ n, crcTurns n r = 0 → r = 0
  | 0, h0 => h0
  | n + 1, h0 => crcTurns_zero h n (crcTurn_zero (crcTurns_lt h n) h0)
theorem crcTurns_of_zero : ∀ n, crcTurns n 0 = 0
  | 0 => rfl
  | n + 1 => by simp [crcTurns, crcTurns_of_zero n, crcTurn]
theorem crcTurns_add (r m : Nat) : ∀ n, crcTurns (m + n) r = crcTurns n (crcTurns m r)
  | 0 => rfl
  | n + 1 => by
    show crcTurn (crcTurns (m + n) r) = _
    rw [crcTurns_add r m n]; rfl
theorem crcTurns_shift (x y : Nat) : ∀ k, crcTurns k (x ^^^ y * 2 ^ k) = crcTurns k x ^^^ y
  | 0 => by simp [crcTurns]
  | k + 1 => by
    have e : y * 2 ^ (k + 1) = (y * 2) * 2 ^ k := by rw [Nat.pow_succ, Nat.mul_comm (2 ^ k) 2, Nat.mul_assoc]
    have ht : crcTurn (y * 2) = y := by
      unfold crcTurn
      rw [if_neg (by omega)]
      omega
    simp only [crcTurns]
    rw [e, crcTurns_shift x (y * 2) k, crcTurn_xor, ht]

/-! As the document turns it. -/
/-- k bits of a byte, one by one. -/
def refBits (r b : Nat) : Nat → Nat
  | 0 => r
  | k + 1 => if b / 2 ^ k % 2 = refBits r b k % 2 then refBits r b k / 2 else (refBits r b k / 2) ^^^ 2197175160
theorem refBits_lt {r : Nat} (h : r < 4294967296) (b : Nat) : ∀ k, refBits r b k < 4294967296
  | 0 => h
  | k + 1 => by
    have := refBits_lt h b k
    unfold refBits; split
    · omega
    · exact xor_lt32 (by omega) (by omega)
theorem refBits_turns (r b : Nat) : ∀ k, crcTurns k (r ^^^ b) = refBits r b k ^^^ b / 2 ^ k
  | 0 => by simp [crcTurns, refBits]
  | k + 1 => by
    simp only [crcTurns]
    rw [refBits_turns r b k, refBits, Nat.pow_succ, ← Nat.div_div_eq_div_mul]
    generalize refBits r b k = x
    generalize b / 2 ^ k = y
    have h := xor_mod2 x y
    unfold crcTurn
    rw [Nat.xor_div_two]
    by_cases e : y % 2 = x % 2
    · rw [if_neg (by omega), if_pos e]
    · rw [if_pos (by omega), if_neg e, Nat.xor_assoc, Nat.xor_comm (y / 2), Nat.xor_assoc]
theorem refBits_byte (r : Nat) (b : UInt8) : refBits r b.toNat 8 = crcByte r b := by
  have := refBits_turns r b.toNat 8
  have hb := b.toNat_lt
  rw [show b.toNat / 2 ^ 8 = 0 by omega, Nat.xor_zero] at this
  exact this.symm

/-! Over lists. -/
theorem crcTo_append (s : Nat) (a b : List UInt8) : ∀ n, crcTo s (a ++ b) (a.length + n) = crcTo (4294967295 - crcTo s a a.length) b n
  | 0 => by
    have h := crcTo_lt (s := s) a a.length
    have e : ∀ k, k ≤ a.length → crcTo s (a ++ b) k = crcTo s a k := by
      intro k hk
      induction k with
      | zero => rfl
      | succ k ih => simp only [crcTo]; rw [ih (by omega)]; congr 1; simp [bat, List.getElem?_append_left (show k < a.length by omega)]
    simp only [crcTo, Nat.add_zero]
    rw [e _ (Nat.le_refl _)]
    omega
  | n + 1 => by
    show crcByte (crcTo s (a ++ b) (a.length + n)) (bat (a ++ b) (a.length + n)) = _
    rw [crcTo_append s a b n, crcTo]
    congr 1
    simp [bat, List.getElem?_append_right]
theorem crcMore_append (s : Nat) (a b : List UInt8) : crcMore s (a ++ b) = crcMore (crcMore s a) b := by
  unfold crcMore
  rw [List.length_append, crcTo_append]
theorem crcTo_xor3 (a b c x : List UInt8) (n : Nat) (hx : ∀ k, k < n → bat x k = bat a k ^^^ bat b k ^^^ bat c k) : crcTo 0 x n = crcTo 0 a n ^^^ crcTo 0 b n ^^^ crcTo 0 c n := by
  induction n with
  | zero => simp [crcTo]
  | succ n ih =>
    simp only [crcTo, crcByte]
    rw [ih (fun k hk => hx k (by omega)), hx n (by omega), ← crcTurns_xor, ← crcTurns_xor]
    congr 1
    simp only [UInt8.toNat_xor]
    generalize crcTo 0 a n = p
    generalize crcTo 0 b n = q
    generalize crcTo 0 c n = r
    generalize (bat a n).toNat = i
    generalize (bat b n).toNat = j
    generalize (bat c n).toNat = k
    apply Nat.eq_of_testBit_eq
    intro m
    simp only [Nat.testBit_xor]
    cases p.testBit m <;> cases q.testBit m <;> cases r.testBit m <;> cases i.testBit m <;> cases j.testBit m <;> cases k.testBit m <;> rfl
theorem crcMore_xor (l : List UInt8) : crcMore 0 l = 4294967295 ^^^ crcTo 0 l l.length := by
  rw [xor_max (crcTo_lt l _)]; rfl
theorem crcMore_xor3 (a b c x : List UInt8) (n : Nat) (ha : a.length = n) (hb : b.length = n) (hc : c.length = n) (hl : x.length = n) (hx : ∀ k, k < n → bat x k = bat a k ^^^ bat b k ^^^ bat c k) :
    crcMore 0 x = crcMore 0 a ^^^ crcMore 0 b ^^^ crcMore 0 c := by
  rw [crcMore_xor, crcMore_xor, crcMore_xor, crcMore_xor, ha, hb, hc, hl, crcTo_xor3 a b c x n hx]
  generalize crcTo 0 a n = p
  generalize crcTo 0 b n = q
  generalize crcTo 0 c n = r
  apply Nat.eq_of_testBit_eq
  intro m
  simp only [Nat.testBit_xor]
  cases (4294967295 : Nat).testBit m <;> cases p.testBit m <;> cases q.testBit m <;> cases r.testBit m <;> rfl

/-! A change within four bytes. -/
/-- The difference of two lists' registers. -/
theorem crcTo_diff (s : Nat) (a b : List UInt8) (n : Nat) : crcTo s a (n + 1) ^^^ crcTo s b (n + 1) = crcTurns 8 ((crcTo s a n ^^^ crcTo s b n) ^^^ ((bat a n).toNat ^^^ (bat b n).toNat)) := by
  simp only [crcTo, crcByte]
  rw [← crcTurns_xor]
  congr 1
  apply Nat.eq_of_testBit_eq
  intro m
  simp only [Nat.testBit_xor]
  generalize (crcTo s a n).testBit m = p
  generalize (crcTo s b n).testBit m = q
  generalize (bat a n).toNat.testBit m = i
  generalize (bat b n).toNat.testBit m = j
  cases p <;> cases q <;> cases i <;> cases j <;> rfl
/-- The word of the changed bytes. -/
def diffW (a b : List UInt8) (p : Nat) : Nat → Nat
  | 0 => 0
  | m + 1 => diffW a b p m ^^^ ((bat a (p + m)).toNat ^^^ (bat b (p + m)).toNat) * 2 ^ (8 * m)
theorem diffW_lt (a b : List UInt8) (p : Nat) : ∀ m, diffW a b p m < 2 ^ (8 * m)
  | 0 => by simp [diffW]
  | m + 1 => by
    have h := diffW_lt a b p m
    have hx : (bat a (p + m)).toNat ^^^ (bat b (p + m)).toNat < 2 ^ 8 := Nat.xor_lt_two_pow (bat_lt a _) (bat_lt b _)
    refine Nat.xor_lt_two_pow (Nat.lt_of_lt_of_le h (Nat.pow_le_pow_right (by decide) (by omega))) ?_
    rw [show 8 * (m + 1) = 8 + 8 * m by omega, Nat.pow_add]
    exact Nat.mul_lt_mul_of_pos_right hx (Nat.pow_pos (by decide))
theorem crc_word (s : Nat) (a b : List UInt8) (p : Nat) (h0 : crcTo s a p = crcTo s b p) : ∀ m, crcTo s a (p + m) ^^^ crcTo s b (p + m) = crcTurns (8 * m) (diffW a b p m)
  | 0 => by simp [h0, diffW, crcTurns]
  | m + 1 => by
    rw [← Nat.add_assoc, crcTo_diff, crc_word s a b p h0 m, diffW, show 8 * (m + 1) = 8 * m + 8 by omega, crcTurns_add, crcTurns_shift]
theorem diffW_zero (a b : List UInt8) (p : Nat) : ∀ m, diffW a b p m = 0 → ∀ k, k < m → bat a (p + k) = bat b (p + k)
  | 0, _, k, hk => by omega
  | m + 1, h0, k, hk => by
    have h := diffW_lt a b p m
    rw [diffW] at h0
    have e := xor_zero_iff h0
    have hz : (bat a (p + m)).toNat ^^^ (bat b (p + m)).toNat = 0 := by
      rcases Nat.eq_zero_or_pos ((bat a (p + m)).toNat ^^^ (bat b (p + m)).toNat) with h1 | h1
      · exact h1
      · have := Nat.mul_le_mul_right (2 ^ (8 * m)) h1
        omega
    rcases Nat.lt_succ_iff_lt_or_eq.1 hk with h1 | h1
    · refine diffW_zero a b p m ?_ k h1
      rw [e, hz, Nat.zero_mul]
    · subst h1
      exact UInt8.toNat_inj.1 (xor_zero_iff hz)
theorem crcTo_same (s : Nat) (a b : List UInt8) (n : Nat) (h : ∀ k, k < n → bat a k = bat b k) : crcTo s a n = crcTo s b n := by
  induction n with
  | zero => rfl
  | succ n ih => simp only [crcTo]; rw [ih (fun k hk => h k (by omega)), h n (by omega)]
theorem crcTo_back (s : Nat) (a b : List UInt8) (p : Nat) : ∀ m, (∀ k, k < m → bat a (p + k) = bat b (p + k)) → crcTo s a (p + m) = crcTo s b (p + m) → crcTo s a p = crcTo s b p
  | 0, _, h => h
  | m + 1, hk, h => by
    refine crcTo_back s a b p m (fun k h1 => hk k (by omega)) ?_
    have e := crcTo_diff s a b (p + m)
    rw [Nat.add_assoc, h, Nat.xor_self, hk m (by omega), Nat.xor_self, Nat.xor_zero] at e
    exact xor_zero_iff (crcTurns_zero (xor_lt32 (crcTo_lt _ _) (crcTo_lt _ _)) 8 e.symm)
/-- Lists that differ within four bytes next to each other at the most have one sum just if they are one. -/
theorem crc_burst (a b : List UInt8) (p m : Nat) (hl : a.length = b.length) (hp : p + m ≤ a.length) (hm : m ≤ 4) (h1 : ∀ k, k < p → bat a k = bat b k) (h2 : ∀ k, p + m ≤ k → k < a.length → bat a k = bat b k) :
    crcMore 0 a = crcMore 0 b ↔ a = b := by
  constructor
  · intro h
    have e : crcTo 0 a a.length = crcTo 0 b a.length := by
      have ha := crcTo_lt (s := 0) a a.length
      have hb := crcTo_lt (s := 0) b b.length
      unfold crcMore at h
      rw [← hl] at h hb
      omega
    have e2 : crcTo 0 a (p + m) = crcTo 0 b (p + m) := by
      refine crcTo_back 0 a b (p + m) (a.length - (p + m)) (fun k hk => h2 _ (by omega) (by omega)) ?_
      rw [show p + m + (a.length - (p + m)) = a.length by omega]
      exact e
    have w := crc_word 0 a b p (crcTo_same 0 a b p h1) m
    rw [e2, Nat.xor_self] at w
    have hlt : diffW a b p m < 4294967296 := Nat.lt_of_lt_of_le (diffW_lt a b p m) (by
      have : (2 : Nat) ^ (8 * m) ≤ 2 ^ 32 := Nat.pow_le_pow_right (by decide) (by omega)
      omega)
    have z := diffW_zero a b p m (crcTurns_zero hlt (8 * m) w.symm)
    apply List.ext_getElem hl
    intro i hi hj
    have hb : bat a i = bat b i := by
      rcases Nat.lt_or_ge i p with h | h
      · exact h1 i h
      · rcases Nat.lt_or_ge i (p + m) with h' | h'
        · have := z (i - p) (by omega)
          rwa [show p + (i - p) = i by omega] at this
        · exact h2 i h' hi
    simpa [bat, List.getElem?_eq_getElem hi, List.getElem?_eq_getElem hj] using hb
  · rintro rfl; rfl
end Go.Proofs.Ytahlhdhljjpeoaa

/- The walks of package sums, and of the document's sums. -/
namespace Go.Proofs.Ytahlhdhljjpeoaa
open Go.RowKit
set_option maxHeartbeats 800000
set_option linter.unusedVariables false
set_option linter.unusedSimpArgs false

theorem turn_any (B : Nat) (w : World) (x : Nat) (hx : x < 4294967296) (hc : w.heap[B]? = some (.cells #[.int .u32 (x : Int)] 139 (0, 0))) :
    Calls Try.prog 120 #[.pointer (some ⟨B, 0, none⟩)] w fun e w' => e = .returned (.tuple #[]) ∧ w'.heap[B]? = some (.cells #[.int .u32 ((crcTurn x : Nat) : Int)] 139 (0, 0)) ∧ Below B w w' := by
  have hcell := cell_of_one hc
  have hfree := free_of_one hc
  have e3 := u32_xor (a := x / 2) (b := 2197175160) (by omega) (by omega)
  have e1 : bits .and .u32 (x : Int) 1 = ((x % 2 : Nat) : Int) := by
    have := bits_mask .u32 32 (by decide) (fun n h0 h1 => IntWalk.u32_in n (by omega)) 1 (by decide) (x : Int) (by omega) (by omega)
    simpa using this
  have E1 := hid e1
  have E3 := hid e3; clear e3 e1
  have hb := Below.refl B w
  have E : Hid (crcTurn x = if x % 2 = 1 then (x / 2) ^^^ 2197175160 else x / 2) := rfl
  go_enter Try.func120, Try.ntmps120
  go_wp2
  · go_end0
    have h : (bits .and .u32 (x : Int) 1 == 1) = true := by assumption
    rw [E1.out, beq_iff_eq] at h
    refine ⟨rfl, ?_, (hb.setCell (Nat.le_refl _) _).setCell (Nat.le_refl _) _⟩
    rw [one_setCell (one_setCell hc), E.out, if_pos (by omega), ← E3.out]
    rfl
  · go_end0
    have h : (bits .and .u32 (x : Int) 1 == 1) = false := by assumption
    rw [E1.out, beq_eq_false_iff_ne] at h
    refine ⟨rfl, ?_, (hb.setCell (Nat.le_refl _) _)⟩
    rw [one_setCell hc, E.out, if_neg (by omega)]
    rfl
theorem more_any (w : World) (s : Nat) (x : Int) (hx : x = (s : Int)) (hs : s < 4294967296) (a : Option Addr) (c N : Nat) (l : List UInt8) (hN : N = l.length) (hl : l.length ≤ 200000000000000) (hr : RdB w a l) :
    Calls Try.prog 112 #[.int .u32 x, .slice a N c] w fun e w' => e = .returned (.int .u32 (crcMore s l : Nat)) ∧ Below w.heap.size w w' := by
  subst hx hN
  have e0 := u32_xor (a := 4294967295) (b := s) (by omega) (by omega)
  rw [xor_max hs] at e0
  have E0 := hid e0; clear e0
  have hmf : ∀ (fn : Fn) (first cap : Array Value) (w : World), (Instr.makeFunc fn first cap).run Try.prog w = .ok (.func fn first cap) w := fun _ _ _ _ => rfl
  go_enter Try.func112, Try.ntmps112
  go_wp2
  go_loopw [14] (fun i wr => ∃ k : Nat, k ≤ l.length ∧ i = .int .i64 k ∧ wr.heap[w.heap.size]? = some (.cells #[.int .u32 (crcTo s l k : Nat)] 139 (0, 0)) ∧ Below w.heap.size w wr) (fun i _ => l.length - (intOf i).toNat)
  case atStart =>
    refine ⟨0, by omega, rfl, ?_, (Below.refl _ _).alloc (Nat.le_refl _) _⟩
    rw [heap_alloc_new, show crcTo s l 0 = 4294967295 - s from rfl, ← E0.out]
    rfl
  case round =>
    obtain ⟨k, hk, rfl, hB, hbl⟩ := hrel
    have hcell := cell_of_one hB
    have hfree := free_of_one hB
    have hx := crcTo_lt (s := s) l k
    by_cases hlt : k < l.length
    · obtain ⟨b, off, rfl, hc⟩ := hr.at_ (by intro e; simp [e] at hlt)
      have hck := cell_below hbl (hc k hlt)
      clear hc
      have hb8 := bat_lt l k
      have e1 := u32_xor (a := crcTo s l k) (b := (bat l k).toNat) (by omega) (by omega)
      have E1 := hid e1; clear e1
      go_wp2_with fail
      go_loopw [22] (fun i wr => ∃ j : Nat, j ≤ 8 ∧ i = .int .i64 j ∧ wr.heap[w.heap.size]? = some (.cells #[.int .u32 (crcTurns j (crcTo s l k ^^^ (bat l k).toNat) : Nat)] 139 (0, 0)) ∧ Below w.heap.size w wr) (fun i _ => 8 - (intOf i).toNat)
      case atStart =>
        refine ⟨0, by omega, rfl, ?_, hbl.setCell (Nat.le_refl _) _⟩
        rw [one_setCell hB, E1.out]; rfl
      case round =>
        obtain ⟨j, hj, rfl, hB', hbl'⟩ := hrel
        have hx' := crcTurns_lt (xor_lt32 hx (show (bat l k).toNat < 4294967296 by omega)) j
        have HB' := hid hB'
        clear hB'
        by_cases hj8 : j < 8
        · go_wp2_with (go_at_call 120; refine (turn_any _ _ _ hx' HB'.out).mono ?_; rintro e w1 ⟨rfl, h1, h2⟩; have H1 := hid h1; clear h1)
          go_roundw
          case rel => exact ⟨j + 1, by omega, by go_num, H1.out, hbl'.trans (h2.mono (Nat.le_refl _))⟩
          case measure => simp [intOf]; omega
        · go_wp2
          go_roundw
          case rel =>
            have : j = 8 := by omega
            subst this
            exact ⟨k + 1, by omega, by go_num, HB'.out, hbl'⟩
          case measure => simp [intOf]; omega
    · have hkl : k = l.length := by omega
      have e9 := u32_xor (a := 4294967295) (b := crcTo s l k) (by omega) (by omega)
      rw [xor_max hx] at e9
      have E9 := hid e9; clear e9
      have HK := hid hkl; clear hkl
      go_wp2
      go_ret
      refine ⟨?_, hbl⟩
      unfold crcMore
      rw [← HK.out, ← E9.out]
      rfl
theorem Crc_any (w : World) (a : Option Addr) (c N : Nat) (l : List UInt8) (hN : N = l.length) (hl : l.length ≤ 200000000000000) (hr : RdB w a l) :
    Calls Try.prog 88 #[.slice a N c] w fun e w' => e = .returned (.int .u32 (crcMore 0 l : Nat)) ∧ Below w.heap.size w w' := by
  subst hN
  go_enter Try.func88, Try.ntmps88
  go_wp2_with (go_at_call 112; refine (more_any _ 0 _ rfl (by omega) _ _ _ l rfl hl hr).mono ?_; rintro e w1 ⟨rfl, h1⟩)
  go_ret
  exact ⟨rfl, h1⟩

theorem refMore_any (w : World) (s : Nat) (x : Int) (hx : x = (s : Int)) (hs : s < 4294967296) (a : Option Addr) (c N : Nat) (l : List UInt8) (hN : N = l.length) (hl : l.length ≤ 200000000000000) (hr : RdB w a l) :
    Calls Try.prog 108 #[.int .u32 x, .slice a N c] w fun e w' => e = .returned (.int .u32 (crcMore s l : Nat)) ∧ w = w' := by
  subst hx hN
  go_enter Try.func108, Try.ntmps108
  go_wp2
  go_loop [5, 6] (fun r i => ∃ k : Nat, k ≤ l.length ∧ i = .int .i64 k ∧ r = .int .u32 (crcTo s l k : Nat)) (fun _ i => l.length - (intOf i).toNat)
  case atStart => exact ⟨0, by omega, rfl, by simp only [crcTo]; congr 1; omega⟩
  case round =>
    obtain ⟨k, hk, rfl, rfl⟩ := hrel
    have hx := crcTo_lt (s := s) l k
    by_cases hlt : k < l.length
    · obtain ⟨b, off, rfl, hc⟩ := hr.at_ (by intro e; simp [e] at hlt)
      have hck := hc k hlt
      clear hc
      have hb8 := bat_lt l k
      go_wp2_with fail
      go_loop [5, 7] (fun r i => ∃ j : Nat, j ≤ 8 ∧ i = .int .i64 j ∧ r = .int .u32 (refBits (crcTo s l k) (bat l k).toNat j : Nat)) (fun _ i => 8 - (intOf i).toNat)
      case atStart => exact ⟨0, by omega, rfl, rfl⟩
      case round =>
        obtain ⟨j, hj, rfl, rfl⟩ := hrel
        have hx' := refBits_lt hx (bat l k).toNat j
        by_cases hj8 : j < 8
        · have E : Hid (refBits (crcTo s l k) (bat l k).toNat (j + 1) = _) := refBits.eq_2 _ _ _
          generalize hr' : refBits (crcTo s l k) (bat l k).toNat j = r at *
          have HR := hid hr'; clear hr'
          have e3 := u32_xor (a := r / 2) (b := 2197175160) (by omega) (by omega)
          have E3 := hid e3; clear e3
          have q : (((bat l k).toNat : Int) / 2 ^ j).tmod 2 = (((bat l k).toNat / 2 ^ j % 2 : Nat) : Int) := by
            rw [Int.tmod_eq_emod_of_nonneg (Int.ediv_nonneg (by omega) (by exact_mod_cast Nat.zero_le _))]
            push_cast; rfl
          have Q := hid q; clear q
          go_wp2
          · go_round
            case rel =>
              refine ⟨j + 1, by omega, by go_num, ?_⟩
              have h : ((((bat l k).toNat : Int) / 2 ^ j).tmod 2 != (r : Int) % 2) = true := by assumption
              rw [Q.out, bne_iff_ne] at h
              rw [E.out, if_neg (by omega), ← E3.out]; rfl
            case measure => simp [intOf]; omega
          · go_round
            case rel =>
              refine ⟨j + 1, by omega, by go_num, ?_⟩
              have h : ((((bat l k).toNat : Int) / 2 ^ j).tmod 2 != (r : Int) % 2) = false := by assumption
              rw [Q.out, bne_eq_false_iff_eq] at h
              rw [E.out, if_pos (by omega)]; rfl
            case measure => simp [intOf]; omega
        · have hj' : j = 8 := by omega
          have HJ := hid hj'; clear hj'
          go_wp2
          go_round
          case rel =>
            have := HJ.out; subst this
            exact ⟨k + 1, by omega, by go_num, by rw [refBits_byte]; rfl⟩
          case measure => simp [intOf]; omega
    · have hkl : k = l.length := by omega
      have e9 : 4294967295 - (crcTo s l k : Int) = ((4294967295 - crcTo s l k : Nat) : Int) := by omega
      have E9 := hid e9; clear e9
      have HK := hid hkl; clear hkl
      go_wp2
      go_ret
      refine ⟨?_, rfl⟩
      unfold crcMore
      rw [← HK.out, ← E9.out]
      rfl

theorem crc9 : crcMore 0 [49, 50, 51, 52, 53, 54, 55, 56, 57] = 3808858755 := by decide +kernel
/-- A constant row of bytes behind its conversion. -/
theorem RdB.marked (w : World) (cs : Array Value) (t : TypeId) (p : Nat × Nat) (l : List UInt8) (h : cs.toList = B8s l) {g : Nat} (hg : g = w.heap.size) : RdB (w.alloc (.cells cs t p)) (some ⟨g, 0, none⟩) l := by
  subst hg
  intro _
  refine ⟨_, _, rfl, fun j u hu => ?_⟩
  rw [cell_of_row _ _ _ cs t p (heap_alloc_new w _)]
  rw [← h] at hu
  simpa using hu
theorem conv_const (w : World) (C : Array Value) (n c : Nat) (g : Nat) (hg : g = w.heap.size) : (convert 61 61 (.slice (some ⟨g, 0, none⟩) n c)).run Try.prog (w.alloc (.cells C 5)) = .ok (.slice (some ⟨g, 0, none⟩) n c) (w.alloc (.cells C 5 (C.size, C.size + 1))) := by
  subst hg
  exact Lib.run_convert_bytes_const w _ _ C n c Try.underlying61 Try.underlying5
theorem Pick_any (w : World) (x : Int) (n : Nat) (hx : -9223372036854775808 ≤ x ∧ x ≤ 9223372036854775807) (hn : 0 < n) (hn2 : n ≤ 200000000000000) :
    Calls Try.prog 14 #[.int .i64 x, .int .i64 (n : Int)] w fun e w' => (∃ p : Nat, p < n ∧ e = .returned (.int .i64 (p : Int))) ∧ w = w' := by
  have h1 := Int.lt_tmod_of_pos x (show (0 : Int) < (n : Int) by omega)
  have h2 := Int.tmod_lt_of_pos x (show (0 : Int) < (n : Int) by omega)
  have H1 := hid h1; have H2 := hid h2; clear h1 h2
  go_enter Try.func14, Try.ntmps14
  go_wp2
  · have h : x.tmod n < 0 := by assumption
    have h1 := H1.out
    have e : wrap64 (x.tmod n + n) = ((x.tmod n + n).toNat : Int) := by rw [IntWalk.wrap64_in _ (by omega)]; omega
    have E := hid e; clear e
    go_ret
    exact ⟨⟨(x.tmod n + n).toNat, by omega, by rw [E.out]; rfl⟩, rfl⟩
  · have h : 0 ≤ x.tmod n := by assumption
    have h2 := H2.out
    have e : x.tmod n = ((x.tmod n).toNat : Int) := by omega
    have E := hid e; clear e
    go_ret
    exact ⟨⟨(x.tmod n).toNat, by omega, by rw [← E.out]; rfl⟩, rfl⟩

end Go.Proofs.Ytahlhdhljjpeoaa

/- The superblock: the walks of PutSuper and GetSuper, of both sides. -/
namespace Go.Proofs.Ytahlhdhljjpeoaa
open Go.RowKit
set_option maxHeartbeats 800000
set_option linter.unusedVariables false
set_option linter.unusedSimpArgs false

/-- A super. -/
structure Sup where
  bl : Int
  ep : Int
  sq : Int
  tl : Int
deriving DecidableEq
def Sup.val (s : Sup) : Value := .agg #[.int .i64 s.bl, .int .i64 s.ep, .int .i64 s.sq, .int .i64 s.tl]
def Sup.in_ (s : Sup) : Prop := (-9223372036854775808 ≤ s.bl ∧ s.bl ≤ 9223372036854775807) ∧ (-9223372036854775808 ≤ s.ep ∧ s.ep ≤ 9223372036854775807) ∧ (-9223372036854775808 ≤ s.sq ∧ s.sq ≤ 9223372036854775807) ∧ (-9223372036854775808 ≤ s.tl ∧ s.tl ≤ 9223372036854775807)
/-- Is it one? -/
def okS (s : Sup) : Bool := decide ((64 ≤ s.bl ∧ s.bl ≤ 512) ∧ (1 ≤ s.ep ∧ s.ep ≤ 8388608) ∧ (1 ≤ s.sq ∧ s.sq ≤ 549755813888) ∧ (0 ≤ s.tl ∧ s.tl ≤ 511))
def magicB : List UInt8 := [76, 69, 68, 71, 69, 82, 48, 49]
/-- Its numbers, one by one. -/
def sNum (s : Sup) : Nat → Nat
  | 0 => s.bl.toNat
  | 1 => s.ep.toNat
  | 2 => s.sq.toNat
  | _ => s.tl.toNat
def supTo (s : Sup) : Nat → List UInt8
  | 0 => magicB
  | k + 1 => supTo s k ++ be (sNum s k) 8
theorem supTo_length (s : Sup) : ∀ k, (supTo s k).length = 8 + 8 * k
  | 0 => rfl
  | k + 1 => by simp only [supTo, List.length_append, supTo_length s k, be_length]; omega
def supB (s : Sup) : List UInt8 := supTo s 4 ++ be (crcMore 0 (supTo s 4)) 4 ++ zeros 4052
theorem supB_length (s : Sup) : (supB s).length = 4096 := by simp [supB, supTo_length, be_length, zeros_length]
/-- What PutSuper answers. -/
def putS (s : Sup) : List UInt8 := if okS s then supB s else []
def errS (s : Sup) : Int := if okS s then 0 else 2
theorem sNum_lt {s : Sup} (h : okS s = true) (k : Nat) : sNum s k ≤ 549755813888 := by
  simp [okS] at h
  unfold sNum
  split <;> omega

theorem within_any (w : World) (lo n hi : Int) :
    Calls Try.prog 117 #[.int .i64 lo, .int .i64 n, .int .i64 hi] w fun e w' => e = .returned (.bool (decide (lo ≤ n ∧ n ≤ hi))) ∧ w = w' := by
  go_enter Try.func117, Try.ntmps117
  go_wp2
  all_goals
    go_ret
    refine ⟨?_, rfl⟩
    first
    | (simp; done)
    | (simp; omega)
theorem Equal_any (w : World) (a b : Option Addr) (c d n m : Nat) (l r : List UInt8) (hn : n = l.length) (hm : m = r.length) (hl : RdB w a l) (hr : RdB w b r) :
    Calls Try.prog 66 #[.slice a n c, .slice b m d] w fun e w' => e = .returned (.bool (l == r)) ∧ w = w' := by
  subst hn hm
  have h1 := run_strB c hl
  have h2 := run_strB d hr
  have h3 := strB_toList l
  have h4 := strB_toList r
  go_enter Try.func66, Try.ntmps66
  go_wp2
  go_ret
  exact ⟨rfl, rfl⟩
theorem below_two {B : Nat} {w w1 : World} (h : Below B w w1) (hB : w.heap.size ≤ w1.heap.size) (o p : Obj) (hw : B ≤ w.heap.size := by exact Nat.le_refl _) : Below B w ((w1.alloc o).alloc p) := (h.alloc (by omega) o).alloc (by simp; omega) p
/-- A cell of a block that is known, behind what was made since. -/
theorem cell_kept {w : World} {g : Nat} {cs : Array Value} {t : TypeId} (h : w.heap[g]? = some (.cells cs t (0, 0))) (j : Nat) (v : Value) (hj : cs[j]? = some v) (o : Obj) : (w.alloc o).cell? ⟨g, j, none⟩ = some v := by
  have hlt : g < w.heap.size := by
    rcases Nat.lt_or_ge g w.heap.size with h' | h'
    · exact h'
    · rw [Array.getElem?_eq_none h'] at h; cases h
  rw [cell_of_row _ _ _ cs t (0, 0) ((heap_alloc_old w o hlt).trans h)]
  exact hj
end Go.Proofs.Ytahlhdhljjpeoaa
