/- The superblock: the walks of PutSuper and GetSuper, of both sides. -/
import Derived.Test.YtjblpejekcbokaaZeros
import Derived.Test.YtjblpejekcbokaaLow
import Derived.Test.YtjblpejekcbokaaOct3
import Derived.Test.YtjblpejekcbokaaSums
namespace Go.Proofs.Ytjblpejekcbokaa
open Go.RowKit
set_option maxHeartbeats 800000
set_option linter.unusedVariables false
set_option linter.unusedSimpArgs false

/-- A super. -/
structure Sup where
  bl : Int
  ep : Int
  sq : Int
  tl : Int
deriving DecidableEq
def Sup.val (s : Sup) : Value := .agg #[.int .i64 s.bl, .int .i64 s.ep, .int .i64 s.sq, .int .i64 s.tl]
def Sup.in_ (s : Sup) : Prop := (-9223372036854775808 ≤ s.bl ∧ s.bl ≤ 9223372036854775807) ∧ (-9223372036854775808 ≤ s.ep ∧ s.ep ≤ 9223372036854775807) ∧ (-9223372036854775808 ≤ s.sq ∧ s.sq ≤ 9223372036854775807) ∧ (-9223372036854775808 ≤ s.tl ∧ s.tl ≤ 9223372036854775807)
/-- Is it one? -/
def okS (s : Sup) : Bool := decide ((64 ≤ s.bl ∧ s.bl ≤ 512) ∧ (1 ≤ s.ep ∧ s.ep ≤ 8388608) ∧ (1 ≤ s.sq ∧ s.sq ≤ 549755813888) ∧ (0 ≤ s.tl ∧ s.tl ≤ 511))
def magicB : List UInt8 := [76, 69, 68, 71, 69, 82, 48, 49]
/-- Its numbers, one by one. -/
def sNum (s : Sup) : Nat → Nat
  | 0 => s.bl.toNat
  | 1 => s.ep.toNat
  | 2 => s.sq.toNat
  | _ => s.tl.toNat
def supTo (s : Sup) : Nat → List UInt8
  | 0 => magicB
  | k + 1 => supTo s k ++ be (sNum s k) 8
theorem supTo_length (s : Sup) : ∀ k, (supTo s k).length = 8 + 8 * k
  | 0 => rfl
  | k + 1 => by simp only [supTo, List.length_append, supTo_length s k, be_length]; omega
def supB (s : Sup) : List UInt8 := supTo s 4 ++ be (crcMore 0 (supTo s 4)) 4 ++ zeros 4052
theorem supB_length (s : Sup) : (supB s).length = 4096 := by simp [supB, supTo_length, be_length, zeros_length]
/-- What PutSuper answers. -/
def putS (s : Sup) : List UInt8 := if okS s then supB s else []
def errS (s : Sup) : Int := if okS s then 0 else 2
theorem sNum_lt {s : Sup} (h : okS s = true) (k : Nat) : sNum s k ≤ 549755813888 := by
  simp [okS] at h
  unfold sNum
  split <;> omega

theorem within_any (w : World) (lo n hi : Int) :
    Calls Try.prog 59 #[.int .i64 lo, .int .i64 n, .int .i64 hi] w fun e w' => e = .returned (.bool (decide (lo ≤ n ∧ n ≤ hi))) ∧ w = w' := by
  go_enter Try.func59, Try.ntmps59
  go_wp2
  all_goals
    go_ret
    refine ⟨?_, rfl⟩
    first
    | (simp; done)
    | (simp; omega)
theorem rightSuper_any (w : World) (s : Sup) :
    Calls Try.prog 37 #[s.val] w fun e w' => e = .returned (.bool (okS s)) ∧ Below w.heap.size w w' := by
  obtain ⟨b, e, q, t⟩ := s
  simp only [Sup.val]
  go_enter Try.func37, Try.ntmps37
  go_wp2_with (go_at_call 59; refine (within_any _ _ _ _).mono ?_; rintro e w' ⟨rfl, rfl⟩)
  all_goals
    go_ret
    refine ⟨?_, (Below.refl _ w).alloc (Nat.le_refl _) _⟩
    show Ending.returned (Value.bool _) = _
    congr 2
    rw [Bool.eq_iff_iff]
    simp [okS]
    try omega
theorem Equal_any (w : World) (a b : Option Addr) (c d n m : Nat) (l r : List UInt8) (hn : n = l.length) (hm : m = r.length) (hl : RdB w a l) (hr : RdB w b r) :
    Calls Try.prog 50 #[.slice a n c, .slice b m d] w fun e w' => e = .returned (.bool (l == r)) ∧ w = w' := by
  subst hn hm
  have h1 := run_strB c hl
  have h2 := run_strB d hr
  have h3 := strB_toList l
  have h4 := strB_toList r
  go_enter Try.func50, Try.ntmps50
  go_wp2
  go_ret
  exact ⟨rfl, rfl⟩
theorem below_two {B : Nat} {w w1 : World} (h : Below B w w1) (hB : w.heap.size ≤ w1.heap.size) (o p : Obj) (hw : B ≤ w.heap.size := by exact Nat.le_refl _) : Below B w ((w1.alloc o).alloc p) := (h.alloc (by omega) o).alloc (by simp; omega) p
/-- A cell of a block that is known, behind what was made since. -/
theorem cell_kept {w : World} {g : Nat} {cs : Array Value} {t : TypeId} (h : w.heap[g]? = some (.cells cs t (0, 0))) (j : Nat) (v : Value) (hj : cs[j]? = some v) (o : Obj) : (w.alloc o).cell? ⟨g, j, none⟩ = some v := by
  have hlt : g < w.heap.size := by
    rcases Nat.lt_or_ge g w.heap.size with h' | h'
    · exact h'
    · rw [Array.getElem?_eq_none h'] at h; cases h
  rw [cell_of_row _ _ _ cs t (0, 0) ((heap_alloc_old w o hlt).trans h)]
  exact hj
set_option maxRecDepth 100000 in
theorem PutSuper_any (w : World) (s : Sup) :
    Calls Try.prog 12 #[s.val] w fun e w' => ∃ A c', e = .returned (.tuple #[.slice A (putS s).length c', .int .i64 (errS s)]) ∧ OwnB w.heap.size w' A c' (putS s) ∧ Below w.heap.size w w' := by
  have kc := fun (w : World) (C : Array Value) (n c : Nat) => conv_const w C n c _ rfl
  by_cases hok : okS s = true
  · have hn := sNum_lt hok
    have ho := hok
    simp [okS] at ho
    have HO := hid ho; clear ho
    have e0 : s.bl = (sNum s 0 : Int) := by have := HO.out; have h : sNum s 0 = s.bl.toNat := rfl; omega
    have e1 : s.ep = (sNum s 1 : Int) := by have := HO.out; have h : sNum s 1 = s.ep.toNat := rfl; omega
    have e2 : s.sq = (sNum s 2 : Int) := by have := HO.out; have h : sNum s 2 = s.sq.toNat := rfl; omega
    have e3 : s.tl = (sNum s 3 : Int) := by have := HO.out; have h : sNum s 3 = s.tl.toNat := rfl; omega
    have hp : putS s = supB s := by rw [putS, if_pos hok]
    have he : errS s = 0 := by rw [errS, if_pos hok]
    have HP := hid hp; have HE := hid he; clear hp he
    have hv : s.val = .agg #[.int .i64 (sNum s 0 : Int), .int .i64 (sNum s 1 : Int), .int .i64 (sNum s 2 : Int), .int .i64 (sNum s 3 : Int)] := by rw [Sup.val, e0, e1, e2, e3]
    have HOK := hid hok
    have R : ∀ W, Calls Try.prog 37 #[.agg #[.int .i64 (sNum s 0 : Int), .int .i64 (sNum s 1 : Int), .int .i64 (sNum s 2 : Int), .int .i64 (sNum s 3 : Int)]] W fun e w' => e = .returned (.bool true) ∧ Below W.heap.size W w' := by
      intro W
      have := rightSuper_any W s
      rw [hok, hv] at this
      exact this
    clear e0 e1 e2 e3 hok
    rw [hv]
    clear hv
    have HN := hid hn; clear hn
    go_enter Try.func12, Try.ntmps12
    go_wp2_with fail
    refine (R _).mono ?_
    rintro e w1 ⟨rfl, b1⟩
    have hg := (b1.block w.heap.size (by simp)).trans (heap_alloc_new w _)
    have c0 := cell_kept hg 0 _ rfl
    have c1 := cell_kept hg 1 _ rfl
    have c2 := cell_kept hg 2 _ rfl
    have c3 := cell_kept hg 3 _ rfl
    have bw := ((Below.refl _ w).alloc (Nat.le_refl _) _).trans (b1.mono (by simp))
    clear hg b1
    go_wp2_with fail
    go_loopw [4, 22] (fun x i wr => ∃ (k : Nat) (A : Option Addr) (c' : Nat), k ≤ 4 ∧ i = .int .i64 k ∧ x = .slice A (8 + 8 * k) c' ∧ RdB wr A (supTo s k) ∧ RdV wr (some ⟨w1.heap.size + 1, 0, none⟩) [.int .i64 (sNum s 0 : Int), .int .i64 (sNum s 1 : Int), .int .i64 (sNum s 2 : Int), .int .i64 (sNum s 3 : Int)] ∧ Below w.heap.size w wr) (fun _ i _ => 4 - (intOf i).toNat)
    case atStart =>
      refine ⟨0, _, 8, by omega, rfl, rfl, ?_, ?_, below_two bw bw.size _ _⟩
      · exact (RdB.marked w1 _ _ _ _ rfl rfl).alloc _
      · have := RdV.new (w1.alloc (.cells #[.int .u8 76, .int .u8 69, .int .u8 68, .int .u8 71, .int .u8 69, .int .u8 82, .int .u8 48, .int .u8 49] 5 (8, 9))) #[.int .i64 (sNum s 0 : Int), .int .i64 (sNum s 1 : Int), .int .i64 (sNum s 2 : Int), .int .i64 (sNum s 3 : Int)] 3
        simpa using this
    case round =>
      obtain ⟨k, A, c', hk, rfl, rfl, hR, hV, hbl⟩ := hrel
      by_cases hlt : k < 4
      · have hc : wr.cell? ⟨w1.heap.size + 1, k, none⟩ = some (.int .i64 (sNum s k : Int)) := by
          obtain ⟨b, off, hb, hcs⟩ := hV (by simp)
          simp only [Option.some.injEq, Addr.mk.injEq, and_true] at hb
          obtain ⟨rfl, rfl⟩ := hb
          have := hcs k (.int .i64 (sNum s k : Int)) (by rcases k with _ | _ | _ | _ | k <;> first | rfl | omega)
          simpa using this
        have hs := HN.out k
        go_wp2_with fail
        refine (Add64_any _ _ _ _ (supTo s k) (supTo_length s k).symm (sNum s k) _ rfl (by rw [supTo_length]; omega) hR (by omega)).mono ?_
        rintro e w2 ⟨A2, c2, rfl, h2, b2⟩
        go_wp2
        go_roundw
        case rel => exact ⟨k + 1, A2, c2, by omega, by go_num, by simp; omega, h2.rd, hV.below b2, hbl.trans (b2.mono hbl.size)⟩
        case measure => simp [intOf]; omega
      · obtain rfl : k = 4 := by omega
        have hl := supTo_length s 4
        have HL := hid hl; clear hl
        have hB : Hid (supB s = supTo s 4 ++ be (crcMore 0 (supTo s 4)) 4 ++ zeros 4052) := rfl
        have HC := hid (crcMore_lt 0 (supTo s 4))
        have HL5 := hid (show (supTo s 4 ++ be (crcMore 0 (supTo s 4)) 4).length = 44 by rw [List.length_append, HL.out, be_length])
        have HLB := hid (supB_length s)
        obtain ⟨L, hL⟩ : ∃ L, L = supTo s 4 := ⟨_, rfl⟩
        rw [← hL] at hB HC HL HL5 hR
        clear hL
        go_wp2_with fail
        refine (Crc_any _ _ _ _ L HL.out.symm (by rw [HL.out]; omega) hR).mono ?_
        rintro e w2 ⟨rfl, b2⟩
        go_wp2_with fail
        refine (Add32_any _ _ _ _ L HL.out.symm (crcMore 0 L) _ rfl (by rw [HL.out]; omega) (hR.below b2) HC.out).mono ?_
        rintro e w3 ⟨A3, c3, rfl, h3, b3⟩
        have bw2 := hbl.trans (b2.mono hbl.size)
        have bw3 := bw2.trans (b3.mono bw2.size)
        have h3' := h3.mono bw2.size
        obtain ⟨M, hM⟩ : ∃ M, M = L ++ be (crcMore 0 L) 4 := ⟨_, rfl⟩
        rw [← hM] at h3' HL5 hB
        clear hM h3
        go_wp2_with (at_builtin; refine app_zeros rfl (.tmp 35) (.tmp 38) rfl w.heap.size A3 c3 44 M HL5.out.symm rfl h3' 4052 _ rfl rfl 4096 (by rw [HL5.out]) (by rw [HL5.out]; omega) w bw3 bw3.size ?_; intro A4 c4 w4 h4 b4)
        go_ret2
        refine ⟨A4, c4, ?_, ?_, b4⟩
        · rw [HP.out, HE.out, HLB.out]; rfl
        · rw [HP.out, hB.out]; exact h4
  · have hok := eq_false_of_ne_true hok
    have hp : putS s = [] := by rw [putS, hok]; rfl
    have he : errS s = 2 := by rw [errS, hok]; rfl
    have HP := hid hp; have HE := hid he; clear hp he
    rw [HP.out, HE.out]
    obtain ⟨b, e, q, t⟩ := s
    simp only [Sup.val]
    go_enter Try.func12, Try.ntmps12
    go_wp2_with fail
    refine (rightSuper_any _ ⟨b, e, q, t⟩).mono ?_
    rw [hok]
    rintro e w1 ⟨rfl, b1⟩
    go_wp2
    go_ret2
    exact ⟨none, 0, rfl, OwnB.nil _ _, ((Below.refl _ w).alloc (Nat.le_refl _) _).trans (b1.mono (by simp))⟩
end Go.Proofs.Ytjblpejekcbokaa
