/- Plain laws of octets: what is put behind bytes is read back; numbers stand in bytes in their own order. -/
import Derived.Test.YtknhfaplddgnlaaOct2
namespace Go.Proofs.Ytknhfaplddgnlaa
open Go.RowKit
set_option linter.unusedVariables false

theorem bat_right (X Y : List UInt8) (k p : Nat) (hp : p = X.length + k) : bat (X ++ Y) p = bat Y k := by
  subst hp
  simp [bat, List.getElem?_append_right]
theorem bat_left (X Y : List UInt8) (k : Nat) (h : k < X.length) : bat (X ++ Y) k = bat X k := by
  simp [bat, List.getElem?_append_left h]
theorem bat_be (v n k : Nat) (h : k < n) : bat (be v n) k = byteOf (v / 256 ^ (n - 1 - k)) := by simp [bat, be, beTo, h]
theorem byteOf_toNat (n : Nat) : (byteOf n).toNat = n % 256 := by simp [byteOf]
theorem numTo_mid (X Y : List UInt8) (v n : Nat) : ∀ k, k ≤ n → numTo (X ++ (be v n ++ Y)) X.length k = v / 256 ^ (n - k) % 256 ^ k
  | 0, _ => by simp [numTo, Nat.mod_one]
  | k + 1, h => by
    have ih := numTo_mid X Y v n k (by omega)
    rw [numTo, ih, bat_right X _ k _ rfl, bat_left _ _ _ (by rw [be_length]; omega), bat_be _ _ _ (by omega), byteOf_toNat]
    have e1 : n - k = (n - 1 - k) + 1 := by omega
    have e2 : n - (k + 1) = n - 1 - k := by omega
    rw [e1, e2, Nat.pow_succ, ← Nat.div_div_eq_div_mul]
    generalize v / 256 ^ (n - 1 - k) = u
    rw [Nat.pow_succ, Nat.mul_comm (256 ^ k) 256, Nat.mod_mul]
    omega
theorem numV_at (X Y L : List UInt8) (v n : Nat) (p : Int) (hp : p = (X.length : Int)) (hL : L = X ++ (be v n ++ Y)) : numOk L p n = true ∧ numV L p n = v % 256 ^ n := by
  subst hp hL
  have h : numOk (X ++ (be v n ++ Y)) (X.length : Int) n = true := by simp [numOk, be_length]; omega
  refine ⟨h, ?_⟩
  rw [numV, if_pos h, Int.toNat_natCast, numTo_mid X Y v n n (Nat.le_refl _)]
  simp
theorem txt_at (X Y L T : List UInt8) (p : Int) (hp : p = (X.length : Int)) (hL : L = X ++ (be T.length 2 ++ (T ++ Y))) (hT : T.length ≤ 65535) :
    txtOk L p = true ∧ txtV L p = T ∧ txtEnd L p = p + 2 + T.length := by
  obtain ⟨h1, h2⟩ := numV_at X (T ++ Y) L T.length 2 p hp hL
  rw [Nat.mod_eq_of_lt (by omega)] at h2
  have hlen : L.length = X.length + 2 + T.length + Y.length := by rw [hL]; simp [be_length]; omega
  have h : txtOk L p = true := by
    rw [txtOk, h1, h2, hlen, hp]
    simp
    omega
  refine ⟨h, ?_, ?_⟩
  · rw [txtV, if_pos h, h2, hp, Int.toNat_natCast, hL]
    have e : X ++ (be T.length 2 ++ (T ++ Y)) = (X ++ be T.length 2) ++ (T ++ Y) := by simp
    rw [e, List.drop_left' (by simp [be_length]), List.take_left' rfl]
  · rw [txtEnd, if_pos h, h2]

/-- The first byte, and the others. -/
theorem be_cons (v n : Nat) : be v (n + 1) = byteOf (v / 256 ^ n) :: be v n := by
  simp only [be, beTo, List.range_succ_eq_map, List.map_cons, List.map_map]
  congr 1
  apply List.map_congr_left
  intro j hj
  simp only [Function.comp, List.mem_range] at hj ⊢
  congr 3
  omega
theorem be_mod (v n : Nat) : be (v % 256 ^ n) n = be v n := by
  simp only [be, beTo]
  apply List.map_congr_left
  intro j hj
  simp only [List.mem_range] at hj
  have e : (256 : Nat) ^ n = 256 ^ (n - 1 - j) * 256 ^ (j + 1) := by rw [← Nat.pow_add]; congr 1; omega
  rw [e, Nat.mod_mul_right_div_self]
  simp only [byteOf]
  apply UInt8.toNat_inj.1
  simp only [UInt8.toNat_ofNat', Nat.pow_succ]
  exact Nat.mod_mul_left_mod _ _ _
theorem be_inj (n : Nat) : ∀ a b : Nat, a < 256 ^ n → b < 256 ^ n → be a n = be b n → a = b := by
  induction n with
  | zero => intro a b ha hb _; simp at ha hb; omega
  | succ n ih =>
    intro a b ha hb h
    rw [be_cons, be_cons] at h
    obtain ⟨h1, h2⟩ := List.cons.inj h
    rw [← be_mod a, ← be_mod b] at h2
    have h3 := ih _ _ (Nat.mod_lt _ (Nat.pow_pos (by decide))) (Nat.mod_lt _ (Nat.pow_pos (by decide))) h2
    have h4 := congrArg UInt8.toNat h1
    rw [byteOf_toNat, byteOf_toNat] at h4
    rw [Nat.pow_succ] at ha hb
    rw [Nat.mod_eq_of_lt (Nat.div_lt_of_lt_mul ha), Nat.mod_eq_of_lt (Nat.div_lt_of_lt_mul hb)] at h4
    rw [← Nat.div_add_mod a (256 ^ n), ← Nat.div_add_mod b (256 ^ n), h3, h4]
theorem be_lt (n : Nat) : ∀ a b : Nat, a < 256 ^ n → b < 256 ^ n → (be a n < be b n ↔ a < b) := by
  induction n with
  | zero => intro a b ha hb; simp at ha hb; subst ha hb; simp [be, beTo]
  | succ n ih =>
    intro a b ha hb
    rw [be_cons, be_cons, List.cons_lt_cons_iff, ← be_mod a, ← be_mod b]
    have hp : 0 < 256 ^ n := Nat.pow_pos (by decide)
    rw [ih _ _ (Nat.mod_lt _ hp) (Nat.mod_lt _ hp), UInt8.lt_iff_toNat_lt, ← UInt8.toNat_inj, byteOf_toNat, byteOf_toNat]
    rw [Nat.pow_succ] at ha hb
    rw [Nat.mod_eq_of_lt (Nat.div_lt_of_lt_mul ha), Nat.mod_eq_of_lt (Nat.div_lt_of_lt_mul hb)]
    have ea := Nat.div_add_mod a (256 ^ n)
    have eb := Nat.div_add_mod b (256 ^ n)
    have la := Nat.mod_lt a hp
    have lb := Nat.mod_lt b hp
    generalize a / 256 ^ n = x at *
    generalize b / 256 ^ n = y at *
    generalize a % 256 ^ n = r at *
    generalize b % 256 ^ n = s at *
    generalize 256 ^ n = m at *
    subst ea eb
    constructor
    · rintro (h | ⟨rfl, h⟩)
      · have : m * (x + 1) ≤ m * y := Nat.mul_le_mul_left _ h
        rw [Nat.mul_add] at this
        omega
      · omega
    · intro h
      rcases Nat.lt_trichotomy x y with h1 | h1 | h1
      · exact .inl h1
      · subst h1; exact .inr ⟨rfl, by omega⟩
      · have : m * (y + 1) ≤ m * x := Nat.mul_le_mul_left _ h1
        rw [Nat.mul_add] at this
        omega
theorem bytesLess_iff : ∀ (l m : List UInt8), Op.bytesLess l m = true ↔ l < m
  | l, [] => by cases l <;> simp [Op.bytesLess]
  | [], b :: m => by simp [Op.bytesLess]
  | a :: l, b :: m => by
    simp only [Op.bytesLess, Bool.or_eq_true, decide_eq_true_eq, Bool.and_eq_true, beq_iff_eq, List.cons_lt_cons_iff, bytesLess_iff l m]
theorem be_less (a b : Nat) (ha : a < 18446744073709551616) (hb : b < 18446744073709551616) : Op.bytesLess (be a 8) (be b 8) = decide (a < b) := by
  have h : (256 : Nat) ^ 8 = 18446744073709551616 := by decide
  rw [Bool.eq_iff_iff, bytesLess_iff, be_lt 8 a b (by omega) (by omega), decide_eq_true_eq]
theorem be_same (a b : Nat) (ha : a < 18446744073709551616) (hb : b < 18446744073709551616) : (be a 8 == be b 8) = ((a : Int) == (b : Int)) := by
  have h : (256 : Nat) ^ 8 = 18446744073709551616 := by decide
  rw [Bool.eq_iff_iff, beq_iff_eq, beq_iff_eq]
  constructor
  · intro e; rw [be_inj 8 a b (by omega) (by omega) e]
  · intro e; rw [Int.ofNat_inj.1 e]
end Go.Proofs.Ytknhfaplddgnlaa
