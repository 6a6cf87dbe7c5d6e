/- Texts joined: BitsP, BtB, BtC, Oct, Oct2. -/
import Derived.Test.YtahlhdhljjpeoaaGBitsErrors1
import Derived.Test.YtahlhdhljjpeoaaGBitsErrors3
/- The block of bits (plain). -/
namespace Go.Proofs.Ytahlhdhljjpeoaa
open Go.RowKit
set_option maxHeartbeats 1000000
set_option maxRecDepth 100000
set_option linter.unusedVariables false
set_option linter.unusedSimpArgs false

/-- Eight bits as a byte. -/
def byteN (f : Nat → Bool) : UInt8 := UInt8.ofNat ((f 0).toNat + (f 1).toNat * 2 + (f 2).toNat * 4 + (f 3).toNat * 8 + (f 4).toNat * 16 + (f 5).toNat * 32 + (f 6).toNat * 64 + (f 7).toNat * 128)
def bitN (b : UInt8) (k : Nat) : Bool := b.toNat / 2 ^ k % 2 == 1
theorem bits8 : ∀ b0 b1 b2 b3 b4 b5 b6 b7 : Bool, ∀ k : Fin 8,
    bitN (UInt8.ofNat (b0.toNat + b1.toNat * 2 + b2.toNat * 4 + b3.toNat * 8 + b4.toNat * 16 + b5.toNat * 32 + b6.toNat * 64 + b7.toNat * 128)) k = [b0, b1, b2, b3, b4, b5, b6, b7].getD k false := by decide +kernel
theorem bitN_byteN (f : Nat → Bool) (k : Nat) (hk : k < 8) : bitN (byteN f) k = f k := by
  have := bits8 (f 0) (f 1) (f 2) (f 3) (f 4) (f 5) (f 6) (f 7) ⟨k, hk⟩
  unfold byteN
  rw [this]
  rcases k with _ | _ | _ | _ | _ | _ | _ | _ | k
  all_goals first | rfl | omega
theorem byte_all : ∀ n : Fin 256, byteN (bitN (UInt8.ofNat n)) = UInt8.ofNat n := by decide +kernel
theorem byteN_bitN (b : UInt8) : byteN (bitN b) = b := by
  have := byte_all ⟨b.toNat, b.toNat_lt⟩
  simpa using this
theorem byteN_ext {f g : Nat → Bool} (h : ∀ k, k < 8 → f k = g k) : byteN f = byteN g := by
  unfold byteN
  rw [h 0 (by omega), h 1 (by omega), h 2 (by omega), h 3 (by omega), h 4 (by omega), h 5 (by omega), h 6 (by omega), h 7 (by omega)]
theorem byte_ext {a b : UInt8} (h : ∀ k, k < 8 → bitN a k = bitN b k) : a = b := by
  rw [← byteN_bitN a, ← byteN_bitN b]
  exact byteN_ext h
/-- A bit is set. -/
theorem or_all : ∀ n : Fin 256, ∀ k : Fin 8, ∀ j : Fin 8, bitN (UInt8.ofNat (n.val ||| 2 ^ k.val)) j = (bitN (UInt8.ofNat n) j || k == j) := by decide +kernel
theorem bitN_or (b : UInt8) (k j : Nat) (hk : k < 8) (hj : j < 8) : bitN (UInt8.ofNat (b.toNat ||| 2 ^ k)) j = (bitN b j || decide (k = j)) := by
  have := or_all ⟨b.toNat, b.toNat_lt⟩ ⟨k, hk⟩ ⟨j, hj⟩
  simp only [UInt8.ofNat_toNat] at this
  rw [this]
  congr 1
  by_cases e : k = j
  · subst e; simp
  · simp [e]
theorem and_all : ∀ n : Fin 256, ∀ k : Fin 8, (n.val &&& 2 ^ k.val != 0) = bitN (UInt8.ofNat n) k := by decide +kernel
theorem and_bit (b : UInt8) (k : Nat) (hk : k < 8) : (b.toNat &&& 2 ^ k != 0) = bitN b k := by
  have := and_all ⟨b.toNat, b.toNat_lt⟩ ⟨k, hk⟩
  simpa using this
/-- The bit of a block. -/
def bitOf (b : List UInt8) (n : Nat) : Bool := bitN (bat b (n / 8)) (n % 8)
def usedOf (b : List UInt8) (n : Nat) : List Bool := (List.range n).map (bitOf b)
theorem usedOf_length (b : List UInt8) (n : Nat) : (usedOf b n).length = n := by simp [usedOf]
theorem usedOf_at (b : List UInt8) (n k : Nat) (h : k < n) : (usedOf b n)[k]? = some (bitOf b k) := by simp [usedOf, h]
theorem usedOf_succ (b : List UInt8) (n : Nat) : usedOf b (n + 1) = usedOf b n ++ [bitOf b n] := by simp [usedOf, List.range_succ]
/-- The block of bits, when so many have been looked at. -/
def wrTo (u : List Bool) (n : Nat) : List UInt8 := (List.range 4096).map fun j => byteN fun k => decide (8 * j + k < n) && u.getD (8 * j + k) false
def wrB (u : List Bool) : List UInt8 := wrTo u u.length
theorem wrTo_length (u : List Bool) (n : Nat) : (wrTo u n).length = 4096 := by simp [wrTo]
theorem wrB_length (u : List Bool) : (wrB u).length = 4096 := wrTo_length _ _
theorem bat_wrTo (u : List Bool) (n j : Nat) (h : j < 4096) : bat (wrTo u n) j = byteN fun k => decide (8 * j + k < n) && u.getD (8 * j + k) false := by simp [wrTo, bat, h]
theorem bitOf_wrTo (u : List Bool) (n m : Nat) (h : m < 32768) : bitOf (wrTo u n) m = (decide (m < n) && u.getD m false) := by
  unfold bitOf
  rw [bat_wrTo _ _ _ (by omega), bitN_byteN _ _ (by omega), show 8 * (m / 8) + m % 8 = m by omega]
theorem bat_extN {l r : List UInt8} (h : l.length = r.length) (h2 : ∀ k, k < l.length → bat l k = bat r k) : l = r := by
  refine List.ext_getElem h fun k h3 h4 => ?_
  have := h2 k h3
  simp only [bat, List.getD_eq_getElem?_getD, List.getElem?_eq_getElem h3, List.getElem?_eq_getElem h4, Option.getD_some] at this
  exact this
theorem bits_ext {a b : List UInt8} (ha : a.length = 4096) (hb : b.length = 4096) (h : ∀ m, m < 32768 → bitOf a m = bitOf b m) : a = b := by
  refine bat_extN (by rw [ha, hb]) fun j hj => byte_ext fun k hk => ?_
  have := h (8 * j + k) (by omega)
  unfold bitOf at this
  rwa [show (8 * j + k) / 8 = j by omega, show (8 * j + k) % 8 = k by omega] at this
theorem wrTo_zero (u : List Bool) : wrTo u 0 = zeros 4096 := by
  refine bits_ext (wrTo_length _ _) (by simp [zeros]) fun m hm => ?_
  rw [bitOf_wrTo _ _ _ hm]
  simp only [Nat.not_lt_zero, decide_false, Bool.false_and]
  unfold bitOf
  have : bat (zeros 4096) (m / 8) = 0 := by
    unfold bat zeros
    rw [List.getD_eq_getElem?_getD, List.getElem?_replicate]
    split <;> rfl
  rw [this]
  simp [bitN]
theorem wrTo_skip (u : List Bool) (n : Nat) (h : u.getD n false = false) : wrTo u (n + 1) = wrTo u n := by
  refine bits_ext (wrTo_length _ _) (wrTo_length _ _) fun m hm => ?_
  rw [bitOf_wrTo _ _ _ hm, bitOf_wrTo _ _ _ hm]
  by_cases e : m = n
  · subst e; rw [h]; simp
  · congr 1
    simp only [decide_eq_decide]
    omega
theorem wrTo_set (u : List Bool) (n : Nat) (hn : n < 32768) (h : u.getD n false = true) : (wrTo u n).set (n / 8) (UInt8.ofNat ((bat (wrTo u n) (n / 8)).toNat ||| 2 ^ (n % 8))) = wrTo u (n + 1) := by
  refine bits_ext (by rw [List.length_set, wrTo_length]) (wrTo_length _ _) fun m hm => ?_
  rw [bitOf_wrTo _ _ _ hm]
  unfold bitOf
  rw [bat_set _ _ _ _ (by rw [wrTo_length]; omega)]
  by_cases e : n / 8 = m / 8
  · rw [if_pos e, bitN_or _ _ _ (by omega) (by omega)]
    have := bitOf_wrTo u n m hm
    unfold bitOf at this
    rw [e, this]
    by_cases e2 : m = n
    · subst e2; rw [h]; simp
    · have : ¬ n % 8 = m % 8 := by omega
      simp only [this, decide_false, Bool.or_false]
      congr 1
      simp only [decide_eq_decide]
      omega
  · rw [if_neg e]
    have := bitOf_wrTo u n m hm
    unfold bitOf at this
    rw [this]
    congr 1
    simp only [decide_eq_decide]
    omega
/-- Is it a block of bits of so many blocks, of which the first are taken? -/
def goodB (b : List UInt8) (da n : Nat) : Bool := (List.range da).all (bitOf b) && (wrB (usedOf b n) == b)
theorem usedOf_wrB (u : List Bool) (h : u.length ≤ 32768) : usedOf (wrB u) u.length = u := by
  refine List.ext_getElem? fun k => ?_
  by_cases hk : k < u.length
  · rw [usedOf_at _ _ _ hk, wrB, bitOf_wrTo _ _ _ (by omega)]
    simp [hk]
  · rw [List.getElem?_eq_none (by rw [usedOf_length]; omega), List.getElem?_eq_none (by omega)]
end Go.Proofs.Ytahlhdhljjpeoaa

/- bits.written. -/
namespace Go.Proofs.Ytahlhdhljjpeoaa
open Go.RowKit
variable {Q : Nat → Prop}
set_option maxHeartbeats 1500000
set_option maxRecDepth 100000
set_option linter.unusedVariables false
set_option linter.unusedSimpArgs false

theorem or8 (a b : Nat) (ha : a < 256) (hb : b < 256) : bits .or .u8 (a : Int) (b : Int) = ((a ||| b : Nat) : Int) :=
  (bits_nat .u8 8 (by decide) (fun n h0 h1 => IntWalk.u8_in n (by omega)) a b (by simpa using ha) (by simpa using hb)).2
theorem and8 (a b : Nat) (ha : a < 256) (hb : b < 256) : bits .and .u8 (a : Int) (b : Int) = ((a &&& b : Nat) : Int) :=
  (bits_nat .u8 8 (by decide) (fun n h0 h1 => IntWalk.u8_in n (by omega)) a b (by simpa using ha) (by simpa using hb)).1
/-- Truths that lie there. -/
def BvL (u : List Bool) : List Value := u.map Value.bool
theorem BvL_length (u : List Bool) : (BvL u).length = u.length := by simp [BvL]
theorem cells7b {w : World} {g : Nat} {t : TypeId} {x0 x1 x2 x3 x4 x5 x6 : Value} (h : w.heap[g]? = some (.cells #[x0, x1, x2, x3, x4, x5, x6] t (0, 0))) :
    w.cell? ⟨g, 0, none⟩ = some x0 ∧ w.cell? ⟨g, 1, none⟩ = some x1 ∧ w.cell? ⟨g, 2, none⟩ = some x2 ∧ w.cell? ⟨g, 3, none⟩ = some x3 ∧ w.cell? ⟨g, 4, none⟩ = some x4 ∧ w.cell? ⟨g, 5, none⟩ = some x5 ∧ w.cell? ⟨g, 6, none⟩ = some x6 := by
  refine ⟨?_, ?_, ?_, ?_, ?_, ?_, ?_⟩ <;> (rw [cell_of_row _ _ _ _ _ _ h]; rfl)
theorem RdV.at_ {w : World} {a : Option Addr} {xs : List Value} (h : RdV w a xs) (hn : xs ≠ []) : ∃ b off, a = some ⟨b, off, none⟩ ∧ ∀ (j : Nat) (u : Value), xs[j]? = some u → w.cell? ⟨b, off + j, none⟩ = some u := h hn
theorem RdV.kept {w w' : World} {a : Option Addr} {xs : List Value} (h : RdV w a xs) (k : Below w.heap.size w w') : RdV w' a xs := by
  intro hn
  obtain ⟨b, off, rfl, hc⟩ := h hn
  exact ⟨b, off, rfl, fun j u hu => cell_below k (hc j u hu)⟩
theorem written_any (w : World) (l : Lay) (hR : rightL l = true) (a : Option Addr) (N c : Nat) (u : List Bool) (hN : N = u.length) (hbl : (u.length : Int) ≤ l.bl) (hr : RdV w a (BvL u)) :
    Calls Try.prog 61 #[l.val, .slice a N c] w fun e w' => ∃ g, e = .returned (.slice (some ⟨g, 0, none⟩) 4096 4096) ∧ OwnB w.heap.size w' (some ⟨g, 0, none⟩) 4096 (wrB u) ∧ Below w.heap.size w w' := by
  have hlt5 := (right_lt hR).1
  have hN5 : N ≤ 512 := by omega
  have BT := fun (W : World) (k : Nat) (hk : k < N) => Bit_any W l (k : Int) (by omega)
  have BY : ∀ k : Nat, k < N → bitB l (k : Int) = ((k / 8 : Nat) : Int) ∧ bitV l (k : Int) = 2 ^ (k % 8) ∧ errB l (k : Int) = 0 := by
    intro k hk
    obtain ⟨h1, h2, h3⟩ := bit_yes hR (show bitOk l (k : Int) = true by unfold bitOk; simp; omega)
    refine ⟨by rw [h1]; omega, ?_, h3⟩
    rw [h2, show ((k : Int) % 8).toNat = k % 8 by omega]
  have HBT := hid BT; have HBY := hid BY; have HN := hid hN; have HR := hid hr
  clear BT BY hR hN hr hbl hlt5
  obtain ⟨b0, b1, b2, b3, b4, b5, b6⟩ := l
  simp only [Lay.val] at HBT ⊢
  have hmk := fun W => run_mkB 4096 4096 4096 rfl rfl (by omega) W
  have hz4 := fun (W : World) (hb : W.heap.size ≤ W.heap.size) => OwnB.made W 4096 hb (by omega)
  obtain ⟨Z, hZ⟩ : ∃ Z : Array Value, Z = madeCells #[.int .u8 0] 4096 := ⟨_, rfl⟩
  simp only [← hZ] at hmk hz4
  clear hZ
  have hrow := heap_alloc_new w (.cells #[.int .i64 b0, .int .i64 b1, .int .i64 b2, .int .i64 b3, .int .i64 b4, .int .i64 b5, .int .i64 b6] 39)
  have hb1 : Below w.heap.size w (w.alloc (.cells #[.int .i64 b0, .int .i64 b1, .int .i64 b2, .int .i64 b3, .int .i64 b4, .int .i64 b5, .int .i64 b6] 39)) := (Below.refl _ _).alloc (Nat.le_refl _) _
  have hz1 : (w.alloc (.cells #[.int .i64 b0, .int .i64 b1, .int .i64 b2, .int .i64 b3, .int .i64 b4, .int .i64 b5, .int .i64 b6] 39)).heap.size = w.heap.size + 1 := by simp
  have ho0 := hz4 (w.alloc (.cells #[.int .i64 b0, .int .i64 b1, .int .i64 b2, .int .i64 b3, .int .i64 b4, .int .i64 b5, .int .i64 b6] 39)) (Nat.le_refl _)
  have hb2 : Below (w.alloc (.cells #[.int .i64 b0, .int .i64 b1, .int .i64 b2, .int .i64 b3, .int .i64 b4, .int .i64 b5, .int .i64 b6] 39)).heap.size (w.alloc (.cells #[.int .i64 b0, .int .i64 b1, .int .i64 b2, .int .i64 b3, .int .i64 b4, .int .i64 b5, .int .i64 b6] 39)) ((w.alloc (.cells #[.int .i64 b0, .int .i64 b1, .int .i64 b2, .int .i64 b3, .int .i64 b4, .int .i64 b5, .int .i64 b6] 39)).alloc (.cells Z 5)) := (Below.refl _ _).alloc (Nat.le_refl _) _
  have hrow2 := (hb2.block _ (heap_in hrow)).trans hrow
  have hb02 := hb1.trans (hb2.mono hb1.size)
  rw [hz1] at ho0
  have HO0 := hid (ho0.mono (Nat.le_succ _)); have HROW := hid hrow2; have HB0 := hid hb02
  clear hrow hb1 hz1 ho0 hb2 hrow2 hb02 hz4
  go_enter Try.func61, Try.ntmps61
  go_wp2_with fail
  go_loopw [14] (fun i wr => ∃ k : Nat, k ≤ N ∧ i = .int .i64 ((k : Nat) : Int) ∧ OwnB w.heap.size wr (some ⟨w.heap.size + 1, 0, none⟩) 4096 (wrTo u k) ∧ wr.heap[w.heap.size]? = some (.cells #[.int .i64 b0, .int .i64 b1, .int .i64 b2, .int .i64 b3, .int .i64 b4, .int .i64 b5, .int .i64 b6] 39 (0, 0)) ∧ Below w.heap.size w wr) (fun i _ => N - (intOf i).toNat)
  case atStart => exact ⟨0, Nat.zero_le _, rfl, by rw [wrTo_zero]; exact HO0.out, HROW.out, HB0.out⟩
  case round => as_aux_lemma =>
    obtain ⟨k, hk, rfl, ho, hw, hb⟩ := hrel
    by_cases hlt : k < N
    · obtain ⟨v, hv⟩ : ∃ v, u[k]? = some v := ⟨u[k]'(by have := HN.out; omega), List.getElem?_eq_getElem _⟩
      obtain ⟨b, off, ha, hc⟩ := (HR.out.kept hb).at_ (by intro e; have := BvL_length u; rw [e] at this; have := HN.out; simp at *; omega)
      subst ha
      have m0 := hc k (.bool v) (by simp [BvL, hv])
      have hgd : u.getD k false = v := by simp [List.getD_eq_getElem?_getD, hv]
      obtain ⟨y0, y1, y2, y3, y4, y5, y6⟩ := cells7b hw
      cases v with
      | false =>
        have HS := hid (wrTo_skip u k hgd)
        have HO := hid ho; have HB := hid hb; have HW := hid hw
        clear hc hv hgd ho hb hw y0 y1 y2 y3 y4 y5 y6
        go_wp2_with fail
        go_roundw
        case rel => exact ⟨k + 1, by omega, by go_num, by rw [HS.out]; exact HO.out, HW.out, HB.out⟩
        case measure => simp [intOf]; omega
      | true =>
        have BT := HBT.out wr k hlt
        obtain ⟨e1, e2, e3⟩ := HBY.out k hlt
        rw [e1, e2, e3] at BT
        have HS := hid (wrTo_set u k (by omega) hgd)
        have hz := hb.size
        obtain ⟨p, hp⟩ : ∃ p, p = k / 8 := ⟨_, rfl⟩
        have hp4 : p < 4096 := by omega
        have hpI : (p : Int) < 4096 := by omega
        rw [← hp] at BT
        have hq : 2 ^ (k % 8) < 256 := by
          have : ∀ r, r < 8 → 2 ^ r < 256 := by decide
          exact this _ (by omega)
        generalize hqe : 2 ^ (k % 8) = q at BT hq
        have HP := hid hp; have HQ := hid hqe
        have HO := hid ho; have HB := hid hb; have HW := hid hw
        clear hc hv hgd e1 e2 e3 ho hb hw hp hqe
        go_wp2_with fail
        refine BT.mono ?_
        rintro e w3 ⟨rfl, b3⟩
        clear BT y0 y1 y2 y3 y4 y5 y6 m0
        have ho3 := HO.out.below b3
        have hl3 := wrTo_length u k
        obtain ⟨_, e, _, x0, xf⟩ := ho3.at_ (by intro e; rw [e] at hl3; exact absurd hl3 (by decide))
        have e := Option.some.inj e
        simp only [Addr.mk.injEq, and_true] at e
        subst e
        have x1 := x0 p (by rw [hl3]; exact hp4)
        have xf1 := xf p
        have hx := (bat (wrTo u k) p).toNat_lt
        have hor := or8 (bat (wrTo u k) p).toNat q hx hq
        have hx8 : ((bat (wrTo u k) p).toNat ||| q) < 256 := Nat.or_lt_two_pow (n := 8) hx hq
        have ho4 := ho3.store p (UInt8.ofNat ((bat (wrTo u k) p).toNat ||| q))
        have hval : ((UInt8.ofNat ((bat (wrTo u k) p).toNat ||| q)).toNat : Int) = (((bat (wrTo u k) p).toNat ||| q : Nat) : Int) := by rw [UInt8.toNat_ofNat_of_lt' hx8]
        rw [hval] at ho4
        have e4 : (wrTo u k).set p (UInt8.ofNat ((bat (wrTo u k) p).toNat ||| q)) = wrTo u (k + 1) := by
          rw [HP.out, ← HQ.out]
          exact HS.out
        rw [e4] at ho4
        have hb3 := HB.out.trans (b3.mono HB.out.size)
        have hw3 := (b3.block _ (heap_in HW.out)).trans HW.out
        generalize (bat (wrTo u k) p).toNat = X at *
        generalize X ||| q = Y at *
        have K4 : Kpt (fun b => b = w.heap.size + 1) w3 (w3.setCell ⟨w.heap.size + 1, p, none⟩ (.int .u8 (Y : Int))) := (Kpt.setCell (Kpt.refl (fun b => b = w.heap.size + 1) w3) rfl _)
        have HO4 := hid ho4; have HW4 := hid ((K4.block _ (heap_in hw3) (by omega)).trans hw3); have HB4 := hid (hb3.setCell (p := ⟨w.heap.size + 1, p, none⟩) (Nat.le_succ _) (.int .u8 (Y : Int)))
        clear ho3 hl3 x0 xf ho4 hval e4 hb3 hw3 K4 b3 hx8 hx
        go_wp2_with fail
        go_roundw
        case rel => exact ⟨k + 1, by omega, by go_num, HO4.out, HW4.out, HB4.out⟩
        case measure => simp [intOf]; omega
    · obtain rfl : k = N := by omega
      have HO := hid ho; have HB := hid hb
      clear ho hw hb
      go_wp2
      go_ret
      exact ⟨w.heap.size + 1, rfl, by rw [wrB, ← HN.out]; exact HO.out, HB.out⟩
end Go.Proofs.Ytahlhdhljjpeoaa

/- slices.Contains on truths. -/
namespace Go.Proofs.Ytahlhdhljjpeoaa
open Go.RowKit
set_option maxHeartbeats 1500000
set_option maxRecDepth 100000
set_option linter.unusedVariables false
set_option linter.unusedSimpArgs false

theorem Index_any (w : World) (a : Option Addr) (N c : Nat) (u : List Bool) (hN : N = u.length) (hl : N ≤ 1000000) (hr : RdV w a (BvL u)) (v : Bool) :
    Calls Try.prog 98 #[.slice a N c, .bool v] w fun e w' => (∃ i : Int, e = .returned (.int .i64 i) ∧ decide (0 ≤ i) = u.contains v ∧ -1 ≤ i ∧ i ≤ 1000000) ∧ w = w' := by
  have HN := hid hN; have HR := hid hr
  clear hN hr
  go_enter Try.func98, Try.ntmps98
  go_wp2_with fail
  go_loopw [8] (fun i wr => ∃ k : Nat, k ≤ N ∧ i = .int .i64 ((k : Nat) : Int) ∧ (u.take k).contains v = false ∧ w = wr) (fun i _ => N - (intOf i).toNat)
  case atStart => exact ⟨0, Nat.zero_le _, rfl, rfl, rfl⟩
  case round => as_aux_lemma =>
    obtain ⟨k, hk, rfl, hc, rfl⟩ := hrel
    by_cases hlt : k < N
    · obtain ⟨x, hx⟩ : ∃ x, u[k]? = some x := ⟨u[k]'(by have := HN.out; omega), List.getElem?_eq_getElem _⟩
      obtain ⟨b, off, rfl, hcell⟩ := HR.out.at_ (by intro e; have := BvL_length u; rw [e] at this; have := HN.out; simp at *; omega)
      have m0 := hcell k (.bool x) (by simp [BvL, hx])
      have ht : u.take (k + 1) = u.take k ++ [x] := by rw [List.take_add_one, hx]; rfl
      by_cases e : v = x
      · subst e
        have hv : (v == v) = true := by simp
        have HC : Hid (u.contains v = true) := hid (by rw [List.contains_iff_mem]; exact List.mem_of_getElem? hx)
        clear hcell hx ht hc
        go_wp2
        go_ret
        exact ⟨⟨(k : Int), rfl, by rw [HC.out]; simp, by omega, by omega⟩, rfl⟩
      · have hv : (v == x) = false := by simpa using e
        have HC : Hid ((u.take (k + 1)).contains v = false) := hid (by
          rw [ht]
          rw [Bool.eq_false_iff] at hc ⊢
          intro h
          rw [List.contains_iff_mem, List.mem_append] at h
          rcases h with h | h
          · exact hc (List.contains_iff_mem.2 h)
          · exact e (List.mem_singleton.1 h))
        clear hcell hx ht hc e
        go_wp2_with fail
        go_roundw
        case rel => exact ⟨k + 1, by omega, by go_num, HC.out, by first | rfl | trivial⟩
        case measure => simp [intOf]; omega
    · obtain rfl : k = N := by omega
      rw [List.take_of_length_le (by rw [← HN.out]; exact Nat.le_refl _)] at hc
      have HC := hid hc
      clear hc
      go_wp2
      go_ret
      exact ⟨⟨-1, rfl, by rw [HC.out]; rfl, by omega, by omega⟩, by first | rfl | trivial⟩
theorem Contains_any (w : World) (a : Option Addr) (N c : Nat) (u : List Bool) (hN : N = u.length) (hl : N ≤ 1000000) (hr : RdV w a (BvL u)) (v : Bool) :
    Calls Try.prog 60 #[.slice a N c, .bool v] w fun e w' => e = .returned (.bool (u.contains v)) ∧ w = w' := by
  have IX := Index_any w a N c u hN hl hr v
  clear hN hr
  go_enter Try.func60, Try.ntmps60
  go_wp2_with fail
  refine IX.mono ?_
  rintro e w1 ⟨⟨i, rfl, hi, h1, h2⟩, rfl⟩
  have HI := hid hi
  clear IX hi
  go_wp2
  go_ret
  exact ⟨by rw [← HI.out]; rfl, rfl⟩
theorem used_no (b : List UInt8) (n da : Nat) (h : da ≤ n) : ((usedOf b n).take da).contains false = !(List.range da).all (bitOf b) := by
  have e : (usedOf b n).take da = usedOf b da := by
    unfold usedOf
    rw [← List.map_take, List.take_range, Nat.min_eq_left h]
  rw [e]
  cases hA : (List.range da).all (bitOf b) with
  | true =>
    rw [Bool.not_true, Bool.eq_false_iff]
    intro hc
    rw [List.contains_iff_mem] at hc
    obtain ⟨k, hk, he⟩ := List.mem_map.1 hc
    have := List.all_eq_true.1 hA k hk
    rw [this] at he
    cases he
  | false =>
    rw [Bool.not_false, List.contains_iff_mem]
    obtain ⟨k, hk, he⟩ := List.all_eq_false.1 hA
    exact List.mem_map.2 ⟨k, hk, by simpa using he⟩
end Go.Proofs.Ytahlhdhljjpeoaa

/- The walks of package octets, and the plain functions that they compute. -/
namespace Go.Proofs.Ytahlhdhljjpeoaa
open Go.RowKit
set_option maxHeartbeats 800000
set_option linter.unusedVariables false
set_option linter.unusedSimpArgs false

/-- The number that n bytes from a place are, highest first. -/
def numTo (l : List UInt8) (p : Nat) : Nat → Nat
  | 0 => 0
  | n + 1 => numTo l p n * 256 + (bat l (p + n)).toNat
def numOk (l : List UInt8) (p : Int) (n : Nat) : Bool := decide (0 ≤ p ∧ p ≤ (l.length : Int) - n)
def numV (l : List UInt8) (p : Int) (n : Nat) : Nat := if numOk l p n then numTo l p.toNat n else 0
theorem numTo_lt (l : List UInt8) (p : Nat) : ∀ n, numTo l p n < 256 ^ n
  | 0 => by simp [numTo]
  | n + 1 => by
    have := numTo_lt l p n
    have hb := bat_lt l (p + n)
    simp only [numTo, Nat.pow_succ]
    omega
theorem numV_lt (l : List UInt8) (p : Int) (n : Nat) : numV l p n < 256 ^ n := by
  unfold numV; split
  · exact numTo_lt l _ n
  · exact Nat.pow_pos (by decide)
theorem u64_or (x y : Nat) (hx : x * 256 < 18446744073709551616) (hy : y < 256) : bits .or .u64 ((x : Int) * 256) (y : Int) = ((x * 256 + y : Nat) : Int) := by
  rw [bits_join .u64 64 (by decide) (fun n h0 h1 => IntWalk.u64_in n (by omega)) 8 ((x : Int) * 256) (y : Int) (by omega) (by omega) (by omega) (by omega) (by omega) (by omega)]
  omega

theorem number_any (w : World) (a : Option Addr) (c N : Nat) (l : List UInt8) (hN : N = l.length) (p : Int) (n : Nat) (hl : l.length ≤ 200000000000000) (hr : RdB w a l) (hp : -9223372036854775808 ≤ p ∧ p ≤ 9223372036854775807) (hn : n ≤ 8) :
    Calls Try.prog 114 #[.slice a N c, .int .i64 p, .int .i64 (n : Int)] w fun e w' => e = .returned (.tuple #[.int .u64 (numV l p n : Nat), .bool (numOk l p n)]) ∧ w = w' := by
  subst hN
  by_cases h0 : p < 0
  · have E := hid (show numV l p n = 0 ∧ numOk l p n = false by simp [numV, numOk]; omega)
    go_enter Try.func114, Try.ntmps114
    go_wp2
    go_ret2
    exact ⟨by rw [E.out.1, E.out.2]; rfl, rfl⟩
  · by_cases h1 : (l.length : Int) - n < p
    · have E := hid (show numV l p n = 0 ∧ numOk l p n = false by simp [numV, numOk]; omega)
      go_enter Try.func114, Try.ntmps114
      go_wp2
      go_ret2
      exact ⟨by rw [E.out.1, E.out.2]; rfl, rfl⟩
    · obtain ⟨q, rfl⟩ := Int.eq_ofNat_of_zero_le (Int.not_lt.1 h0)
      have E := hid (show numV l q n = numTo l q n ∧ numOk l q n = true by simp [numV, numOk]; omega)
      have hq : q + n ≤ l.length := by omega
      go_enter Try.func114, Try.ntmps114
      go_wp2
      go_loop [8, 21] (fun v i => ∃ k : Nat, k ≤ n ∧ i = .int .i64 k ∧ v = .int .u64 (numTo l q k : Nat)) (fun _ i => n - (intOf i).toNat)
      case atStart => exact ⟨0, by omega, rfl, rfl⟩
      case round =>
        obtain ⟨k, hk, rfl, rfl⟩ := hrel
        by_cases hlt : k < n
        · obtain ⟨b, off, rfl, hc⟩ := hr.at_ (by intro e; simp [e] at hq; omega)
          have hck := hc (q + k) (by omega)
          clear hc
          have hb8 := bat_lt l (q + k)
          have hx := numTo_lt l q k
          have hx2 : numTo l q k * 256 < 18446744073709551616 := by
            have h1 : (256 : Nat) ^ k ≤ 256 ^ 7 := Nat.pow_le_pow_right (by decide) (by omega)
            have h2 : (256 : Nat) ^ 7 = 72057594037927936 := by decide
            omega
          have e1 := u64_or (numTo l q k) (bat l (q + k)).toNat hx2 hb8
          have E1 := hid e1; clear e1 hx
          go_wp2
          go_round
          case rel => exact ⟨k + 1, by omega, by go_num, by rw [E1.out]; rfl⟩
          case measure => simp [intOf]; omega
        · have hkn : k = n := by omega
          have HK := hid hkn; clear hkn
          go_wp2
          go_ret2
          exact ⟨by rw [E.out.1, E.out.2, ← HK.out]; rfl, rfl⟩

theorem U16_any (w : World) (a : Option Addr) (c N : Nat) (l : List UInt8) (hN : N = l.length) (p : Int) (hl : l.length ≤ 200000000000000) (hr : RdB w a l) (hp : -9223372036854775808 ≤ p ∧ p ≤ 9223372036854775807) :
    Calls Try.prog 94 #[.slice a N c, .int .i64 p] w fun e w' => e = .returned (.tuple #[.int .u16 (numV l p 2 : Nat), .bool (numOk l p 2)]) ∧ w = w' := by
  subst hN
  have hx : numV l p 2 < 65536 := numV_lt l p 2
  go_enter Try.func94, Try.ntmps94
  go_wp2_with (go_at_call 114; refine (number_any _ _ _ _ l rfl p 2 hl hr hp (by omega)).mono ?_; rintro e w' ⟨rfl, rfl⟩)
  go_ret2
  exact ⟨rfl, rfl⟩
theorem U32_any (w : World) (a : Option Addr) (c N : Nat) (l : List UInt8) (hN : N = l.length) (p : Int) (hl : l.length ≤ 200000000000000) (hr : RdB w a l) (hp : -9223372036854775808 ≤ p ∧ p ≤ 9223372036854775807) :
    Calls Try.prog 95 #[.slice a N c, .int .i64 p] w fun e w' => e = .returned (.tuple #[.int .u32 (numV l p 4 : Nat), .bool (numOk l p 4)]) ∧ w = w' := by
  subst hN
  have hx : numV l p 4 < 4294967296 := numV_lt l p 4
  go_enter Try.func95, Try.ntmps95
  go_wp2_with (go_at_call 114; refine (number_any _ _ _ _ l rfl p 4 hl hr hp (by omega)).mono ?_; rintro e w' ⟨rfl, rfl⟩)
  go_ret2
  exact ⟨rfl, rfl⟩
/-- The last n bytes of a number, highest first; the first i of them. -/
def beTo (v n i : Nat) : List UInt8 := (List.range i).map fun j => byteOf (v / 256 ^ (n - 1 - j))
def be (v n : Nat) : List UInt8 := beTo v n n
theorem beTo_length (v n i : Nat) : (beTo v n i).length = i := by simp [beTo]
theorem be_length (v n : Nat) : (be v n).length = n := beTo_length v n n
theorem beTo_succ (v n i : Nat) : beTo v n (i + 1) = beTo v n i ++ [byteOf (v / 256 ^ (n - 1 - i))] := by simp [beTo, List.range_succ]
theorem shr_byte (v k : Nat) : (v : Int) / 2 ^ (8 * k) % 256 = ((byteOf (v / 256 ^ k)).toNat : Int) := by
  rw [byteOf, UInt8.toNat_ofNat', show (2 : Int) ^ (8 * k) = ((256 ^ k : Nat) : Int) by rw [Int.pow_mul]; simp]
  omega

theorem add_any (w : World) (a : Option Addr) (c N : Nat) (l : List UInt8) (hN : N = l.length) (v0 n : Nat) (hl : l.length ≤ 199999999999000) (hr : RdB w a l) (hn : n ≤ 8) (hv : v0 < 18446744073709551616) :
    Calls Try.prog 111 #[.slice a N c, .int .u64 (v0 : Int), .int .i64 (n : Int)] w fun e w' =>
      ∃ A c', e = .returned (.slice A (N + n) c') ∧ OwnB w.heap.size w' A c' (l ++ be v0 n) ∧ Below w.heap.size w w' := by
  subst hN
  have hmk : ∀ W : World, (Instr.makeSlice 61 (.int .i64 (l.length : Int)) (.int .i64 ((l.length : Int) + (n : Int)))).run Try.prog W = .ok (.slice (some ⟨W.heap.size, 0, none⟩) l.length (l.length + n)) (W.alloc (.cells (madeCells #[.int .u8 0] (l.length + n)) 5)) := by
    intro W
    obtain ⟨i0, hi, hz0, hz1, hz2⟩ := info_parts info_u8
    have := run_make (P := Try.prog) W 61 5 i0 (.int .u8 0) Try.underlying61 hi hz0 .i64 .i64 (l.length : Int) ((l.length : Int) + n) (by omega) (by omega) (by rw [hz2]; omega) (by omega)
    rw [this, hz1]
    simp only [Int.toNat_natCast, Nat.mul_one]
    have h : ((l.length : Int) + (n : Int)).toNat = l.length + n := by omega
    rw [h]; rfl
  go_enter Try.func111, Try.ntmps111
  go_wp2_with (with_reducible refine copy_bytes rfl (.tmp 16) (.tmp 17) rfl w.heap.size 0 l.length (l.length + n) rfl a l.length c l rfl rfl (hr.alloc _) (madeCells #[.int .u8 0] (l.length + n)).toList (by simpa using heap_alloc_new w _) (by simp [size_madeCells]) w.heap.size w ((Below.refl _ _).alloc (Nat.le_refl _) _) (Nat.le_refl _) ?_; intro w1 hg hb1 hs1 _)
  have ho : OwnB w.heap.size w1 (some ⟨w.heap.size, 0, none⟩) (l.length + n) l := by
    refine ⟨by simp [B8s], .inr ⟨w.heap.size, _, _, rfl, Nat.le_refl _, hg.out, by omega, by simp only [maxLen]; omega, ?_, ?_⟩⟩
    · simp [splice, size_madeCells, B8s]
    · simp [splice, B8s]
  go_loopw [7, 20] (fun v i wr => ∃ (k : Nat) (A : Option Addr) (c' : Nat), k ≤ n ∧ i = .int .i64 k ∧ v = .slice A (l.length + k) c' ∧ OwnB w.heap.size wr A c' (l ++ beTo v0 n k) ∧ Below w.heap.size w wr) (fun _ i _ => n - (intOf i).toNat)
  case atStart => exact ⟨0, some ⟨w.heap.size, 0, none⟩, l.length + n, by omega, rfl, rfl, by simpa [beTo] using ho, hb1⟩
  case round =>
    obtain ⟨k, A, c', hk, rfl, rfl, ho', hb'⟩ := hrel
    have HO' := hid ho'; clear ho' ho hs1 hmk
    have hlk : (l ++ beTo v0 n k).length = l.length + k := by simp [beTo_length]
    have HLK := hid hlk; clear hlk
    by_cases hlt : k < n
    · have e1 := shr_byte v0 (n - 1 - k)
      have hbd : (l ++ beTo v0 n k).length + [byteOf (v0 / 256 ^ (n - 1 - k))].length ≤ 200000000000000 := by rw [HLK.out]; simp; omega
      have HBD := hid hbd; clear hbd
      have hsz := hb'.size
      go_wp2_with (at_builtin; refine app_bytes rfl (.tmp 23) (.tmp 32) rfl w.heap.size A c' (l.length + k) (l ++ beTo v0 n k) HLK.out.symm rfl (HO'.out.below ((Below.refl _ _).alloc (Nat.le_refl _) _)) (some ⟨wr.heap.size, 0, none⟩) 1 1 [byteOf (v0 / 256 ^ (n - 1 - k))] rfl rfl (RdV.one (v := B8 _)) (l.length + k + 1) (by rw [HLK.out]; rfl) HBD.out w (hb'.alloc hsz _) (by simp; omega) ?_; intro A1 c1 w2 ho2 hb2 _ _; have HO2 := hid ho2; clear ho2)
      go_roundw
      case rel => exact ⟨k + 1, A1, c1, by omega, by go_num, rfl, by have := HO2.out; rw [List.append_assoc, ← beTo_succ] at this; exact this, hb2⟩
      case measure => simp [intOf]; omega
    · have hkn : k = n := by omega
      have HK := hid hkn; clear hkn
      go_wp2
      go_ret
      refine ⟨A, c', ?_, ?_, hb'⟩
      · rw [← HK.out]; rfl
      · rw [show be v0 n = beTo v0 n k by rw [HK.out]; rfl]; exact HO'.out
theorem Add16_any (w : World) (a : Option Addr) (c N : Nat) (l : List UInt8) (hN : N = l.length) (v : Nat) (x : Int) (hx : x = (v : Int)) (hl : l.length ≤ 199999999999000) (hr : RdB w a l) (hv : v < 65536) :
    Calls Try.prog 87 #[.slice a N c, .int .u16 x] w fun e w' =>
      ∃ A c', e = .returned (.slice A (N + 2) c') ∧ OwnB w.heap.size w' A c' (l ++ be v 2) ∧ Below w.heap.size w w' := by
  subst hN
  subst hx
  go_enter Try.func87, Try.ntmps87
  go_wp2_with (go_at_call 111; refine (add_any _ _ _ _ l rfl v 2 hl hr (by omega) (by omega)).mono ?_; rintro e w' ⟨A, c', rfl, h1, h2⟩)
  go_ret
  exact ⟨A, c', rfl, h1, h2⟩
theorem Add32_any (w : World) (a : Option Addr) (c N : Nat) (l : List UInt8) (hN : N = l.length) (v : Nat) (x : Int) (hx : x = (v : Int)) (hl : l.length ≤ 199999999999000) (hr : RdB w a l) (hv : v < 4294967296) :
    Calls Try.prog 86 #[.slice a N c, .int .u32 x] w fun e w' =>
      ∃ A c', e = .returned (.slice A (N + 4) c') ∧ OwnB w.heap.size w' A c' (l ++ be v 4) ∧ Below w.heap.size w w' := by
  subst hN
  subst hx
  go_enter Try.func86, Try.ntmps86
  go_wp2_with (go_at_call 111; refine (add_any _ _ _ _ l rfl v 4 hl hr (by omega) (by omega)).mono ?_; rintro e w' ⟨A, c', rfl, h1, h2⟩)
  go_ret
  exact ⟨A, c', rfl, h1, h2⟩
def addTxt (l : List UInt8) (t : ByteArray) : List UInt8 := if t.size ≤ 65535 then l ++ be t.size 2 ++ t.data.toList else []
def errTxt (t : ByteArray) : Int := if t.size ≤ 65535 then 0 else 3
theorem data_length (t : ByteArray) : t.data.toList.length = t.size := by rw [Array.length_toList]; rfl
end Go.Proofs.Ytahlhdhljjpeoaa

/- The walks of octets.Text and of the document's octets. -/
namespace Go.Proofs.Ytahlhdhljjpeoaa
open Go.RowKit
set_option maxHeartbeats 800000
set_option linter.unusedVariables false
set_option linter.unusedSimpArgs false

def txtOk (l : List UInt8) (p : Int) : Bool := numOk l p 2 && decide ((numV l p 2 : Int) ≤ (l.length : Int) - p - 2)
def txtV (l : List UInt8) (p : Int) : List UInt8 := if txtOk l p then (l.drop (p.toNat + 2)).take (numV l p 2) else []
def txtEnd (l : List UInt8) (p : Int) : Int := if txtOk l p then p + 2 + numV l p 2 else 0

/-! The document's. -/
theorem Number_any (w : World) (a : Option Addr) (c N : Nat) (l : List UInt8) (hN : N = l.length) (p : Int) (n : Nat) (hl : l.length ≤ 200000000000000) (hr : RdB w a l) (hp : -9223372036854775808 ≤ p ∧ p ≤ 9223372036854775807) (hn : n ≤ 8) :
    Calls Try.prog 119 #[.slice a N c, .int .i64 p, .int .i64 (n : Int)] w fun e w' => e = .returned (.tuple #[.int .u64 (numV l p n : Nat), .bool (numOk l p n)]) ∧ w = w' := by
  subst hN
  by_cases h0 : p < 0
  · have E := hid (show numV l p n = 0 ∧ numOk l p n = false by simp [numV, numOk]; omega)
    go_enter Try.func119, Try.ntmps119
    go_wp2
    go_ret2
    exact ⟨by rw [E.out.1, E.out.2]; rfl, rfl⟩
  · by_cases h2 : l.length < n
    · have hd : decide (l.length < n) = true := by simpa using h2
      have E := hid (show numV l p n = 0 ∧ numOk l p n = false by simp [numV, numOk]; omega)
      go_enter Try.func119, Try.ntmps119
      go_wp2
      go_ret2
      exact ⟨by rw [E.out.1, E.out.2]; rfl, rfl⟩
    · have hd : decide (l.length < n) = false := by simpa using h2
      by_cases h1 : (l.length : Int) - n < p
      · have E := hid (show numV l p n = 0 ∧ numOk l p n = false by simp [numV, numOk]; omega)
        go_enter Try.func119, Try.ntmps119
        go_wp2
        go_ret2
        exact ⟨by rw [E.out.1, E.out.2]; rfl, rfl⟩
      · obtain ⟨q, rfl⟩ := Int.eq_ofNat_of_zero_le (Int.not_lt.1 h0)
        have E := hid (show numV l q n = numTo l q n ∧ numOk l q n = true by simp [numV, numOk]; omega)
        have hq : q + n ≤ l.length := by omega
        go_enter Try.func119, Try.ntmps119
        go_wp2
        go_loop [8, 9] (fun v i => ∃ k : Nat, k ≤ n ∧ i = .int .i64 k ∧ v = .int .u64 (numTo l q k : Nat)) (fun _ i => n - (intOf i).toNat)
        case atStart => exact ⟨0, by omega, rfl, rfl⟩
        case round =>
          obtain ⟨k, hk, rfl, rfl⟩ := hrel
          by_cases hlt : k < n
          · obtain ⟨b, off, rfl, hc⟩ := hr.at_ (by rintro rfl; simp at hq; omega)
            have hck := hc (q + k) (by omega)
            clear hc
            have hb8 := bat_lt l (q + k)
            have hx := numTo_lt l q k
            have hx2 : 256 * numTo l q k < 18446744073709551616 - 255 := by
              have h1 : (256 : Nat) ^ k ≤ 256 ^ 7 := Nat.pow_le_pow_right (by decide) (by omega)
              have h2 : (256 : Nat) ^ 7 = 72057594037927936 := by decide
              omega
            clear hx
            go_wp2
            go_round
            case rel => exact ⟨k + 1, by omega, by go_num, by rw [numTo, Nat.mul_comm, Int.natCast_add, Int.natCast_mul]; rfl⟩
            case measure => simp [intOf]; omega
          · have hkn : k = n := by omega
            have HK := hid hkn; clear hkn
            go_wp2
            go_ret2
            exact ⟨by rw [E.out.1, E.out.2, ← HK.out]; rfl, rfl⟩

/-- The lowest bytes of a number, lowest first. -/
def leTo (v n : Nat) : List UInt8 := (List.range n).map fun j => byteOf (v / 256 ^ j)
theorem leTo_length (v n : Nat) : (leTo v n).length = n := by simp [leTo]
theorem leTo_succ (v n : Nat) : leTo v (n + 1) = leTo v n ++ [byteOf (v / 256 ^ n)] := by simp [leTo, List.range_succ]
theorem bat_leTo (v n k : Nat) (h : k < n) : bat (leTo v n) k = byteOf (v / 256 ^ k) := by simp [bat, leTo, h]
theorem low_byte (v : Nat) : (v : Int) % 256 = ((byteOf v).toNat : Int) := by rw [byteOf, UInt8.toNat_ofNat']; omega

theorem refAdd_any (w : World) (a : Option Addr) (c N : Nat) (l : List UInt8) (hN : N = l.length) (v0 n : Nat) (x : Int) (hx : x = (v0 : Int)) (hl : l.length ≤ 199999999999000) (hr : RdB w a l) (hn : n ≤ 8) (hv : v0 < 18446744073709551616) :
    Calls Try.prog 118 #[.slice a N c, .int .u64 x, .int .i64 (n : Int)] w fun e w' =>
      ∃ A c', e = .returned (.slice A (N + n) c') ∧ OwnB w.heap.size w' A c' (l ++ be v0 n) ∧ Below w.heap.size w w' := by
  subst hN
  subst hx
  go_enter Try.func118, Try.ntmps118
  go_wp2
  go_loopw [1, 7, 8] (fun v s i wr => ∃ (k : Nat) (A : Option Addr) (c' : Nat), k ≤ n ∧ i = .int .i64 k ∧ v = .int .u64 ((v0 / 256 ^ k : Nat) : Int) ∧ s = .slice A k c' ∧ OwnB w.heap.size wr A c' (leTo v0 k) ∧ Below w.heap.size w wr) (fun _ _ i _ => n - (intOf i).toNat)
  case atStart => exact ⟨0, none, 0, by omega, rfl, by simp, rfl, OwnB.nil _ _, Below.refl _ _⟩
  case round =>
    obtain ⟨k, A, c', hk, rfl, rfl, rfl, ho', hb'⟩ := hrel
    have HO' := hid ho'; clear ho'
    have hlk := leTo_length v0 k
    have HLK := hid hlk; clear hlk
    have hsz := hb'.size
    by_cases hlt : k < n
    · have hvk : v0 / 256 ^ k ≤ v0 := Nat.div_le_self _ _
      have e2 : v0 / 256 ^ k / 256 = v0 / 256 ^ (k + 1) := by rw [Nat.div_div_eq_div_mul, Nat.pow_succ]
      have E2 := hid e2; clear e2
      generalize hu : v0 / 256 ^ k = u at *
      have HU := hid hu; clear hu
      have e1 := low_byte u
      go_wp2_with (at_builtin; refine app_bytes rfl (.tmp 16) (.tmp 20) rfl w.heap.size A c' k (leTo v0 k) HLK.out.symm rfl (HO'.out.below ((Below.refl _ _).alloc (Nat.le_refl _) _)) (some ⟨wr.heap.size, 0, none⟩) 1 1 [byteOf u] rfl rfl (RdV.one (v := B8 _)) (k + 1) (by rw [HLK.out]; rfl) (by rw [HLK.out]; simp; omega) w (hb'.alloc hsz _) (by simp; omega) ?_; intro A1 c1 w2 ho2 hb2 _ _; have HO2 := hid ho2; clear ho2)
      go_roundw
      case rel => exact ⟨k + 1, A1, c1, by omega, by go_num, by rw [← E2.out, Int.natCast_ediv]; rfl, rfl, by have := HO2.out; rw [← HU.out, ← leTo_succ] at this; exact this, hb2⟩
      case measure => simp [intOf]; omega
    · obtain rfl : k = n := by omega
      obtain ⟨wo, rfl⟩ : ∃ wo : World, wo = wr := ⟨_, rfl⟩
      have hlow := RdB.below (w' := wo) HO'.out.rd (Below.refl _ _)
      have HL := hid hlow; clear hlow
      go_wp2_with (at_builtin; refine app_bytes rfl (.tmp 24) (.tmp 25) rfl wo.heap.size none 0 0 [] rfl rfl (OwnB.nil _ _) a l.length c l rfl rfl (hr.below hb') l.length (by simp) (by simp; omega) wo (Below.refl _ _) (Nat.le_refl _) ?_; intro A1 c1 w2 ho2 hb2 _ _; have HO2 := hid ho2; clear ho2)
      have hsz2 := hb2.size
      go_loopw [9, 10] (fun s i wr => ∃ (j : Nat) (A2 : Option Addr) (c2 : Nat), j ≤ k ∧ i = .int .i64 ((k : Int) - 1 - j) ∧ s = .slice A2 (l.length + j) c2 ∧ OwnB wo.heap.size wr A2 c2 (l ++ beTo v0 k j) ∧ Below wo.heap.size wo wr) (fun _ i _ => (intOf i + 1).toNat)
      case atStart => exact ⟨0, A1, c1, by omega, by simp, rfl, by simpa [beTo] using HO2.out, hb2⟩
      case round =>
        obtain ⟨j, A2, c2, hj, rfl, rfl, ho3, hb3⟩ := hrel
        have HO3 := hid ho3; clear ho3
        have hlj : (l ++ beTo v0 k j).length = l.length + j := by simp [beTo_length]
        have HLJ := hid hlj; clear hlj
        have hsz3 := hb3.size
        by_cases hjk : j < k
        · obtain ⟨b, off, rfl, hc⟩ := HL.out.at_ (by intro e; have := HLK.out; rw [e] at this; simp at this; omega)
          have hck := cell_below hb3 (hc (k - 1 - j) (by rw [HLK.out]; omega))
          rw [bat_leTo _ _ _ (by omega)] at hck
          clear hc
          go_wp2_with (at_builtin; go_loud (refine app_bytes rfl (.tmp 33) (.tmp 38) rfl wo.heap.size A2 c2 (l.length + j) (l ++ beTo v0 k j) HLJ.out.symm rfl (HO3.out.below ((Below.refl _ _).alloc (Nat.le_refl _) _)) (some ⟨wr.heap.size, 0, none⟩) 1 1 [byteOf (v0 / 256 ^ (k - 1 - j))] rfl rfl (RdV.one (v := B8 _)) (l.length + j + 1) (by rw [HLJ.out]; rfl) (by rw [HLJ.out]; simp; omega) wo (hb3.alloc hsz3 _) (by simp; omega) ?_; intro A4 c4 w4 ho4 hb4 _ _; have HO4 := hid ho4; clear ho4))
          go_roundw
          case rel => exact ⟨j + 1, A4, c4, by omega, by congr 1; omega, rfl, by have := HO4.out; rw [List.append_assoc, ← beTo_succ] at this; exact this, hb4⟩
          case measure => simp [intOf]; omega
        · obtain rfl : j = k := by omega
          go_wp2
          go_ret
          exact ⟨A2, c2, rfl, HO3.out.mono hsz, hb'.trans (hb3.mono hsz)⟩

end Go.Proofs.Ytahlhdhljjpeoaa
