/- Texts joined: Sums, Sup, BtD, BtE, BtF. -/
import Derived.Lib.SlBytesConst
import Derived.Test.YtahlhdhljjpeoaaGBitsOnce2
import Derived.Test.YtahlhdhljjpeoaaGBitsOnce4
import Derived.Test.YtahlhdhljjpeoaaGBitsOnce5
/- The walks of package sums, and of the document's sums. -/
namespace Go.Proofs.Ytahlhdhljjpeoaa
open Go.RowKit
set_option maxHeartbeats 800000
set_option linter.unusedVariables false
set_option linter.unusedSimpArgs false

theorem turn_any (B : Nat) (w : World) (x : Nat) (hx : x < 4294967296) (hc : w.heap[B]? = some (.cells #[.int .u32 (x : Int)] 139 (0, 0))) :
    Calls Try.prog 120 #[.pointer (some ⟨B, 0, none⟩)] w fun e w' => e = .returned (.tuple #[]) ∧ w'.heap[B]? = some (.cells #[.int .u32 ((crcTurn x : Nat) : Int)] 139 (0, 0)) ∧ Below B w w' := by
  have hcell := cell_of_one hc
  have hfree := free_of_one hc
  have e3 := u32_xor (a := x / 2) (b := 2197175160) (by omega) (by omega)
  have e1 : bits .and .u32 (x : Int) 1 = ((x % 2 : Nat) : Int) := by
    have := bits_mask .u32 32 (by decide) (fun n h0 h1 => IntWalk.u32_in n (by omega)) 1 (by decide) (x : Int) (by omega) (by omega)
    simpa using this
  have E1 := hid e1
  have E3 := hid e3; clear e3 e1
  have hb := Below.refl B w
  have E : Hid (crcTurn x = if x % 2 = 1 then (x / 2) ^^^ 2197175160 else x / 2) := rfl
  go_enter Try.func120, Try.ntmps120
  go_wp2
  · go_end0
    have h : (bits .and .u32 (x : Int) 1 == 1) = true := by assumption
    rw [E1.out, beq_iff_eq] at h
    refine ⟨rfl, ?_, (hb.setCell (Nat.le_refl _) _).setCell (Nat.le_refl _) _⟩
    rw [one_setCell (one_setCell hc), E.out, if_pos (by omega), ← E3.out]
    rfl
  · go_end0
    have h : (bits .and .u32 (x : Int) 1 == 1) = false := by assumption
    rw [E1.out, beq_eq_false_iff_ne] at h
    refine ⟨rfl, ?_, (hb.setCell (Nat.le_refl _) _)⟩
    rw [one_setCell hc, E.out, if_neg (by omega)]
    rfl
theorem more_any (w : World) (s : Nat) (x : Int) (hx : x = (s : Int)) (hs : s < 4294967296) (a : Option Addr) (c N : Nat) (l : List UInt8) (hN : N = l.length) (hl : l.length ≤ 200000000000000) (hr : RdB w a l) :
    Calls Try.prog 112 #[.int .u32 x, .slice a N c] w fun e w' => e = .returned (.int .u32 (crcMore s l : Nat)) ∧ Below w.heap.size w w' := by
  subst hx hN
  have e0 := u32_xor (a := 4294967295) (b := s) (by omega) (by omega)
  rw [xor_max hs] at e0
  have E0 := hid e0; clear e0
  have hmf : ∀ (fn : Fn) (first cap : Array Value) (w : World), (Instr.makeFunc fn first cap).run Try.prog w = .ok (.func fn first cap) w := fun _ _ _ _ => rfl
  go_enter Try.func112, Try.ntmps112
  go_wp2
  go_loopw [14] (fun i wr => ∃ k : Nat, k ≤ l.length ∧ i = .int .i64 k ∧ wr.heap[w.heap.size]? = some (.cells #[.int .u32 (crcTo s l k : Nat)] 139 (0, 0)) ∧ Below w.heap.size w wr) (fun i _ => l.length - (intOf i).toNat)
  case atStart =>
    refine ⟨0, by omega, rfl, ?_, (Below.refl _ _).alloc (Nat.le_refl _) _⟩
    rw [heap_alloc_new, show crcTo s l 0 = 4294967295 - s from rfl, ← E0.out]
    rfl
  case round =>
    obtain ⟨k, hk, rfl, hB, hbl⟩ := hrel
    have hcell := cell_of_one hB
    have hfree := free_of_one hB
    have hx := crcTo_lt (s := s) l k
    by_cases hlt : k < l.length
    · obtain ⟨b, off, rfl, hc⟩ := hr.at_ (by intro e; simp [e] at hlt)
      have hck := cell_below hbl (hc k hlt)
      clear hc
      have hb8 := bat_lt l k
      have e1 := u32_xor (a := crcTo s l k) (b := (bat l k).toNat) (by omega) (by omega)
      have E1 := hid e1; clear e1
      go_wp2_with fail
      go_loopw [22] (fun i wr => ∃ j : Nat, j ≤ 8 ∧ i = .int .i64 j ∧ wr.heap[w.heap.size]? = some (.cells #[.int .u32 (crcTurns j (crcTo s l k ^^^ (bat l k).toNat) : Nat)] 139 (0, 0)) ∧ Below w.heap.size w wr) (fun i _ => 8 - (intOf i).toNat)
      case atStart =>
        refine ⟨0, by omega, rfl, ?_, hbl.setCell (Nat.le_refl _) _⟩
        rw [one_setCell hB, E1.out]; rfl
      case round =>
        obtain ⟨j, hj, rfl, hB', hbl'⟩ := hrel
        have hx' := crcTurns_lt (xor_lt32 hx (show (bat l k).toNat < 4294967296 by omega)) j
        have HB' := hid hB'
        clear hB'
        by_cases hj8 : j < 8
        · go_wp2_with (go_at_call 120; refine (turn_any _ _ _ hx' HB'.out).mono ?_; rintro e w1 ⟨rfl, h1, h2⟩; have H1 := hid h1; clear h1)
          go_roundw
          case rel => exact ⟨j + 1, by omega, by go_num, H1.out, hbl'.trans (h2.mono (Nat.le_refl _))⟩
          case measure => simp [intOf]; omega
        · go_wp2
          go_roundw
          case rel =>
            have : j = 8 := by omega
            subst this
            exact ⟨k + 1, by omega, by go_num, HB'.out, hbl'⟩
          case measure => simp [intOf]; omega
    · have hkl : k = l.length := by omega
      have e9 := u32_xor (a := 4294967295) (b := crcTo s l k) (by omega) (by omega)
      rw [xor_max hx] at e9
      have E9 := hid e9; clear e9
      have HK := hid hkl; clear hkl
      go_wp2
      go_ret
      refine ⟨?_, hbl⟩
      unfold crcMore
      rw [← HK.out, ← E9.out]
      rfl
theorem Crc_any (w : World) (a : Option Addr) (c N : Nat) (l : List UInt8) (hN : N = l.length) (hl : l.length ≤ 200000000000000) (hr : RdB w a l) :
    Calls Try.prog 88 #[.slice a N c] w fun e w' => e = .returned (.int .u32 (crcMore 0 l : Nat)) ∧ Below w.heap.size w w' := by
  subst hN
  go_enter Try.func88, Try.ntmps88
  go_wp2_with (go_at_call 112; refine (more_any _ 0 _ rfl (by omega) _ _ _ l rfl hl hr).mono ?_; rintro e w1 ⟨rfl, h1⟩)
  go_ret
  exact ⟨rfl, h1⟩

theorem refMore_any (w : World) (s : Nat) (x : Int) (hx : x = (s : Int)) (hs : s < 4294967296) (a : Option Addr) (c N : Nat) (l : List UInt8) (hN : N = l.length) (hl : l.length ≤ 200000000000000) (hr : RdB w a l) :
    Calls Try.prog 108 #[.int .u32 x, .slice a N c] w fun e w' => e = .returned (.int .u32 (crcMore s l : Nat)) ∧ w = w' := by
  subst hx hN
  go_enter Try.func108, Try.ntmps108
  go_wp2
  go_loop [5, 6] (fun r i => ∃ k : Nat, k ≤ l.length ∧ i = .int .i64 k ∧ r = .int .u32 (crcTo s l k : Nat)) (fun _ i => l.length - (intOf i).toNat)
  case atStart => exact ⟨0, by omega, rfl, by simp only [crcTo]; congr 1; omega⟩
  case round =>
    obtain ⟨k, hk, rfl, rfl⟩ := hrel
    have hx := crcTo_lt (s := s) l k
    by_cases hlt : k < l.length
    · obtain ⟨b, off, rfl, hc⟩ := hr.at_ (by intro e; simp [e] at hlt)
      have hck := hc k hlt
      clear hc
      have hb8 := bat_lt l k
      go_wp2_with fail
      go_loop [5, 7] (fun r i => ∃ j : Nat, j ≤ 8 ∧ i = .int .i64 j ∧ r = .int .u32 (refBits (crcTo s l k) (bat l k).toNat j : Nat)) (fun _ i => 8 - (intOf i).toNat)
      case atStart => exact ⟨0, by omega, rfl, rfl⟩
      case round =>
        obtain ⟨j, hj, rfl, rfl⟩ := hrel
        have hx' := refBits_lt hx (bat l k).toNat j
        by_cases hj8 : j < 8
        · have E : Hid (refBits (crcTo s l k) (bat l k).toNat (j + 1) = _) := refBits.eq_2 _ _ _
          generalize hr' : refBits (crcTo s l k) (bat l k).toNat j = r at *
          have HR := hid hr'; clear hr'
          have e3 := u32_xor (a := r / 2) (b := 2197175160) (by omega) (by omega)
          have E3 := hid e3; clear e3
          have q : (((bat l k).toNat : Int) / 2 ^ j).tmod 2 = (((bat l k).toNat / 2 ^ j % 2 : Nat) : Int) := by
            rw [Int.tmod_eq_emod_of_nonneg (Int.ediv_nonneg (by omega) (by exact_mod_cast Nat.zero_le _))]
            push_cast; rfl
          have Q := hid q; clear q
          go_wp2
          · go_round
            case rel =>
              refine ⟨j + 1, by omega, by go_num, ?_⟩
              have h : ((((bat l k).toNat : Int) / 2 ^ j).tmod 2 != (r : Int) % 2) = true := by assumption
              rw [Q.out, bne_iff_ne] at h
              rw [E.out, if_neg (by omega), ← E3.out]; rfl
            case measure => simp [intOf]; omega
          · go_round
            case rel =>
              refine ⟨j + 1, by omega, by go_num, ?_⟩
              have h : ((((bat l k).toNat : Int) / 2 ^ j).tmod 2 != (r : Int) % 2) = false := by assumption
              rw [Q.out, bne_eq_false_iff_eq] at h
              rw [E.out, if_pos (by omega)]; rfl
            case measure => simp [intOf]; omega
        · have hj' : j = 8 := by omega
          have HJ := hid hj'; clear hj'
          go_wp2
          go_round
          case rel =>
            have := HJ.out; subst this
            exact ⟨k + 1, by omega, by go_num, by rw [refBits_byte]; rfl⟩
          case measure => simp [intOf]; omega
    · have hkl : k = l.length := by omega
      have e9 : 4294967295 - (crcTo s l k : Int) = ((4294967295 - crcTo s l k : Nat) : Int) := by omega
      have E9 := hid e9; clear e9
      have HK := hid hkl; clear hkl
      go_wp2
      go_ret
      refine ⟨?_, rfl⟩
      unfold crcMore
      rw [← HK.out, ← E9.out]
      rfl

theorem crc9 : crcMore 0 [49, 50, 51, 52, 53, 54, 55, 56, 57] = 3808858755 := by decide +kernel
/-- A constant row of bytes behind its conversion. -/
theorem RdB.marked (w : World) (cs : Array Value) (t : TypeId) (p : Nat × Nat) (l : List UInt8) (h : cs.toList = B8s l) {g : Nat} (hg : g = w.heap.size) : RdB (w.alloc (.cells cs t p)) (some ⟨g, 0, none⟩) l := by
  subst hg
  intro _
  refine ⟨_, _, rfl, fun j u hu => ?_⟩
  rw [cell_of_row _ _ _ cs t p (heap_alloc_new w _)]
  rw [← h] at hu
  simpa using hu
theorem conv_const (w : World) (C : Array Value) (n c : Nat) (g : Nat) (hg : g = w.heap.size) : (convert 61 61 (.slice (some ⟨g, 0, none⟩) n c)).run Try.prog (w.alloc (.cells C 5)) = .ok (.slice (some ⟨g, 0, none⟩) n c) (w.alloc (.cells C 5 (C.size, C.size + 1))) := by
  subst hg
  exact Lib.run_convert_bytes_const w _ _ C n c Try.underlying61 Try.underlying5
theorem Pick_any (w : World) (x : Int) (n : Nat) (hx : -9223372036854775808 ≤ x ∧ x ≤ 9223372036854775807) (hn : 0 < n) (hn2 : n ≤ 200000000000000) :
    Calls Try.prog 14 #[.int .i64 x, .int .i64 (n : Int)] w fun e w' => (∃ p : Nat, p < n ∧ e = .returned (.int .i64 (p : Int))) ∧ w = w' := by
  have h1 := Int.lt_tmod_of_pos x (show (0 : Int) < (n : Int) by omega)
  have h2 := Int.tmod_lt_of_pos x (show (0 : Int) < (n : Int) by omega)
  have H1 := hid h1; have H2 := hid h2; clear h1 h2
  go_enter Try.func14, Try.ntmps14
  go_wp2
  · have h : x.tmod n < 0 := by assumption
    have h1 := H1.out
    have e : wrap64 (x.tmod n + n) = ((x.tmod n + n).toNat : Int) := by rw [IntWalk.wrap64_in _ (by omega)]; omega
    have E := hid e; clear e
    go_ret
    exact ⟨⟨(x.tmod n + n).toNat, by omega, by rw [E.out]; rfl⟩, rfl⟩
  · have h : 0 ≤ x.tmod n := by assumption
    have h2 := H2.out
    have e : x.tmod n = ((x.tmod n).toNat : Int) := by omega
    have E := hid e; clear e
    go_ret
    exact ⟨⟨(x.tmod n).toNat, by omega, by rw [← E.out]; rfl⟩, rfl⟩

end Go.Proofs.Ytahlhdhljjpeoaa

/- The superblock: the walks of PutSuper and GetSuper, of both sides. -/
namespace Go.Proofs.Ytahlhdhljjpeoaa
open Go.RowKit
set_option maxHeartbeats 800000
set_option linter.unusedVariables false
set_option linter.unusedSimpArgs false

/-- A super. -/
structure Sup where
  bl : Int
  ep : Int
  sq : Int
  tl : Int
deriving DecidableEq
def Sup.val (s : Sup) : Value := .agg #[.int .i64 s.bl, .int .i64 s.ep, .int .i64 s.sq, .int .i64 s.tl]
def Sup.in_ (s : Sup) : Prop := (-9223372036854775808 ≤ s.bl ∧ s.bl ≤ 9223372036854775807) ∧ (-9223372036854775808 ≤ s.ep ∧ s.ep ≤ 9223372036854775807) ∧ (-9223372036854775808 ≤ s.sq ∧ s.sq ≤ 9223372036854775807) ∧ (-9223372036854775808 ≤ s.tl ∧ s.tl ≤ 9223372036854775807)
/-- Is it one? -/
def okS (s : Sup) : Bool := decide ((64 ≤ s.bl ∧ s.bl ≤ 512) ∧ (1 ≤ s.ep ∧ s.ep ≤ 8388608) ∧ (1 ≤ s.sq ∧ s.sq ≤ 549755813888) ∧ (0 ≤ s.tl ∧ s.tl ≤ 511))
def magicB : List UInt8 := [76, 69, 68, 71, 69, 82, 48, 49]
/-- Its numbers, one by one. -/
def sNum (s : Sup) : Nat → Nat
  | 0 => s.bl.toNat
  | 1 => s.ep.toNat
  | 2 => s.sq.toNat
  | _ => s.tl.toNat
def supTo (s : Sup) : Nat → List UInt8
  | 0 => magicB
  | k + 1 => supTo s k ++ be (sNum s k) 8
theorem supTo_length (s : Sup) : ∀ k, (supTo s k).length = 8 + 8 * k
  | 0 => rfl
  | k + 1 => by simp only [supTo, List.length_append, supTo_length s k, be_length]; omega
def supB (s : Sup) : List UInt8 := supTo s 4 ++ be (crcMore 0 (supTo s 4)) 4 ++ zeros 4052
theorem supB_length (s : Sup) : (supB s).length = 4096 := by simp [supB, supTo_length, be_length, zeros_length]
/-- What PutSuper answers. -/
def putS (s : Sup) : List UInt8 := if okS s then supB s else []
def errS (s : Sup) : Int := if okS s then 0 else 2
theorem sNum_lt {s : Sup} (h : okS s = true) (k : Nat) : sNum s k ≤ 549755813888 := by
  simp [okS] at h
  unfold sNum
  split <;> omega

theorem within_any (w : World) (lo n hi : Int) :
    Calls Try.prog 117 #[.int .i64 lo, .int .i64 n, .int .i64 hi] w fun e w' => e = .returned (.bool (decide (lo ≤ n ∧ n ≤ hi))) ∧ w = w' := by
  go_enter Try.func117, Try.ntmps117
  go_wp2
  all_goals
    go_ret
    refine ⟨?_, rfl⟩
    first
    | (simp; done)
    | (simp; omega)
theorem Equal_any (w : World) (a b : Option Addr) (c d n m : Nat) (l r : List UInt8) (hn : n = l.length) (hm : m = r.length) (hl : RdB w a l) (hr : RdB w b r) :
    Calls Try.prog 66 #[.slice a n c, .slice b m d] w fun e w' => e = .returned (.bool (l == r)) ∧ w = w' := by
  subst hn hm
  have h1 := run_strB c hl
  have h2 := run_strB d hr
  have h3 := strB_toList l
  have h4 := strB_toList r
  go_enter Try.func66, Try.ntmps66
  go_wp2
  go_ret
  exact ⟨rfl, rfl⟩
theorem below_two {B : Nat} {w w1 : World} (h : Below B w w1) (hB : w.heap.size ≤ w1.heap.size) (o p : Obj) (hw : B ≤ w.heap.size := by exact Nat.le_refl _) : Below B w ((w1.alloc o).alloc p) := (h.alloc (by omega) o).alloc (by simp; omega) p
/-- A cell of a block that is known, behind what was made since. -/
theorem cell_kept {w : World} {g : Nat} {cs : Array Value} {t : TypeId} (h : w.heap[g]? = some (.cells cs t (0, 0))) (j : Nat) (v : Value) (hj : cs[j]? = some v) (o : Obj) : (w.alloc o).cell? ⟨g, j, none⟩ = some v := by
  have hlt : g < w.heap.size := by
    rcases Nat.lt_or_ge g w.heap.size with h' | h'
    · exact h'
    · rw [Array.getElem?_eq_none h'] at h; cases h
  rw [cell_of_row _ _ _ cs t (0, 0) ((heap_alloc_old w o hlt).trans h)]
  exact hj
end Go.Proofs.Ytahlhdhljjpeoaa

/- bits.Used (printed by gen24b.py). -/
namespace Go.Proofs.Ytahlhdhljjpeoaa
open Go.RowKit
variable {Q : Nat → Prop}
set_option maxHeartbeats 1500000
set_option maxRecDepth 100000
set_option linter.unusedVariables false
set_option linter.unusedSimpArgs false

theorem own_adrP {base c : Nat} {w : World} {a : Option Addr} {l : List UInt8} (h : OwnB base w a c l) (hn : l ≠ []) : ∃ g, a = some ⟨g, 0, none⟩ ∧ base ≤ g ∧ g < w.heap.size := by
  obtain ⟨g, rfl, hb, _⟩ := h.at_ hn
  exact ⟨g, rfl, hb, h.lt.2⟩
theorem own_sl1 {w : World} {base n size : Nat} {e : TypeId} {v : Value} {xs : List Value} (h : w.ownsRow base e size v n xs) (hn : 0 < n) : ∃ g c, v = .slice (some ⟨g, 0, none⟩) n c ∧ base ≤ g ∧ g < w.heap.size := by
  rcases h.2 with ⟨_, h0⟩ | ⟨g', cap, cur, rfl, hb, hg, r⟩
  · omega
  · exact ⟨g', cap, rfl, hb, heap_in hg⟩
theorem own_rdV {w : World} {base n g c : Nat} {e : TypeId} {xs : List Value} (h : w.ownsRow base e 1 (.slice (some ⟨g, 0, none⟩) n c) n xs) (hl : xs.length = n * 1) : RdV w (some ⟨g, 0, none⟩) xs := by
  refine fun _ => ⟨g, 0, rfl, fun i v hv => ?_⟩
  have hi : i < xs.length := (List.getElem?_eq_some_iff.1 hv).1
  rw [Nat.zero_add, World.ownsRow.cellAt h i (by omega), hv]
theorem info_bo : (Try.prog.info? 4).map (fun i => (i.zero, i.size, i.bytes)) = some (some (.bool false), 1, 1) := by kernel_rfl
/-- The space's block of bits. -/
def bitsB (d : Pl) (l : Lay) : List UInt8 := d.b.getD l.bi.toNat []
def usedD (d : Pl) (l : Lay) : Pl := if rightL l = true then d.tick else d
def usedE (d : Pl) (l : Lay) : Int := if rightL l = true then if d.spent = true then 4 else if goodB (bitsB d l) l.da.toNat l.bl.toNat = true then 0 else 30 else 2
def usedU (d : Pl) (l : Lay) : List Bool := if usedE d l = 0 then usedOf (bitsB d l) l.bl.toNat else []
theorem right_in {l : Lay} (h : rightL l = true) : 0 ≤ l.bi ∧ l.bi < l.bl ∧ 0 ≤ l.da ∧ l.da ≤ l.bl ∧ 64 ≤ l.bl ∧ l.bl ≤ 512 ∧ l.ino + l.ib = l.da ∧ l.ino = l.bi + 1 ∧ 4 ≤ l.ib := by
  unfold rightL at h
  simp only [Bool.and_eq_true, decide_eq_true_eq] at h
  obtain ⟨h1, h2⟩ := h
  have h3 := h1
  unfold okN at h3
  have h4 := of_decide_eq_true h3
  have hb := ringL_bd h4.1 h4.2
  unfold ofL at h2
  rw [if_pos h1] at h2
  obtain ⟨b0, b1, b2, b3, b4, b5, b6⟩ := l
  simp only [Lay.mk.injEq] at h2
  dsimp only at *
  omega
theorem Used_is {base : Nat} (w : World) (P : Nat) {S : Nat → Prop} {d : Pl} (h : IsPl Q base w P S d) (hl : -100000000 ≤ d.left) (l : Lay) (hbl : rightL l = true → l.bl = (d.b.length : Int)) :
    Calls Try.prog 29 #[spV P, l.val] w fun e w' => (∃ A N c, e = .returned (.tuple #[.slice A N c, .int .i64 (usedE d l)]) ∧ N = (usedU d l).length ∧ w'.ownsRow w.heap.size 4 1 (.slice A N c) N (BvL (usedU d l))) ∧ IsPl Q base w' P S (usedD d l) ∧ Kpt S w w' := by
  have WR := fun w => bitsWrong_any w P l
  have hb0 : ∀ o : Obj, Below w.heap.size w (w.alloc o) := fun o => (Below.refl _ _).alloc (Nat.le_refl _) _
  cases hR : rightL l with
  | false =>
    have hE : usedE d l = 2 := by simp [usedE, hR]
    have hD : usedD d l = d := by simp [usedD, hR]
    have hU : usedU d l = [] := by simp [usedU, hE]
    rw [hE, hD, hU]
    have hw : wrgE l = 2 := by simp [wrgE, hR]
    simp only [hw] at WR
    have H := hid h
    clear h hE hD hU hw hR hbl
    obtain ⟨b0, b1, b2, b3, b4, b5, b6⟩ := l
    simp only [Lay.val, spV] at WR ⊢
    go_enter Try.func29, Try.ntmps29
    go_wp2_with fail
    refine (WR _).mono ?_
    rintro e w1 ⟨rfl, b1'⟩
    have hb := (hb0 (.cells #[.int .i64 b0, .int .i64 b1, .int .i64 b2, .int .i64 b3, .int .i64 b4, .int .i64 b5, .int .i64 b6] 39)).trans (b1'.mono (hb0 (.cells #[.int .i64 b0, .int .i64 b1, .int .i64 b2, .int .i64 b3, .int .i64 b4, .int .i64 b5, .int .i64 b6] 39)).size)
    have HB := hid hb
    clear WR b1' hb hb0
    go_wp2
    refine bodyPost_ret (v := .tuple #[.slice none 0 0, .int .i64 2]) (by simp [results, Try.results29, go_sem]) rfl ⟨⟨none, 0, 0, rfl, rfl, World.ownsRow_nil _ _ _ _⟩, H.out.below HB.out, Kpt.of_below HB.out⟩
  | true =>
    have hbl := hbl hR
    have hin := right_in hR
    have hw : wrgE l = 0 := by simp [wrgE, hR]
    simp only [hw] at WR
    have hD : usedD d l = d.tick := by simp [usedD, hR]
    have hEd : usedE d l = if d.spent = true then 4 else if goodB (bitsB d l) l.da.toNat l.bl.toNat = true then 0 else 30 := by simp [usedE, hR]
    have hok := h.ok
    obtain ⟨bi, hbi⟩ : ∃ bi : Nat, l.bi = (bi : Int) := ⟨l.bi.toNat, by omega⟩
    obtain ⟨da, hda⟩ : ∃ da : Nat, l.da = (da : Int) := ⟨l.da.toNat, by omega⟩
    obtain ⟨N, hNl⟩ : ∃ N : Nat, N = d.b.length := ⟨_, rfl⟩
    rw [← hNl] at hbl
    obtain ⟨blk, hblk⟩ : ∃ blk, blk = d.b.getD bi [] := ⟨_, rfl⟩
    have hb4 : blk.length = 4096 := by
      have hm : bi < d.b.length := by omega
      rw [hblk, List.getD_eq_getElem?_getD, List.getElem?_eq_getElem hm]
      exact hok.b4 _ (List.getElem_mem hm)
    have hBB : bitsB d l = blk := by rw [bitsB, hbi, hblk]; rfl
    rw [hBB, hda, hbl, Int.toNat_natCast, Int.toNat_natCast] at hEd
    have hrE : d.rdE (bi : Int) = if d.spent = true then 4 else 0 := by
      unfold Pl.rdE Pl.inB
      rw [if_pos (show decide (0 ≤ (bi : Int) ∧ (bi : Int) < (d.b.length : Int)) = true from decide_eq_true (by omega))]
    have hrB : d.spent = false → d.rdB (bi : Int) = blk := fun hs => by
      unfold Pl.rdB Pl.inB
      rw [hs, if_neg (by decide), if_pos (show decide (0 ≤ (bi : Int) ∧ (bi : Int) < (d.b.length : Int)) = true from decide_eq_true (by omega)), hblk]
      rfl
    have hrB2 : d.spent = true → d.rdB (bi : Int) = [] := fun hs => by unfold Pl.rdB; rw [hs]; rfl
    have hUd : usedU d l = if usedE d l = 0 then usedOf blk N else [] := by rw [usedU, hBB, hbl, Int.toNat_natCast]
    rw [hD]
    have WT := fun (W : World) (A : Option Addr) (c : Nat) (hr : RdV W A (BvL (usedOf blk N))) => written_any W l hR A N c (usedOf blk N) (by rw [usedOf_length]) (by rw [usedOf_length]; omega) hr
    have BT := fun (W : World) (k : Nat) (hk : k < N) => Bit_any W l (k : Int) (by omega)
    have BY : ∀ k : Nat, k < N → bitB l (k : Int) = ((k / 8 : Nat) : Int) ∧ bitV l (k : Int) = 2 ^ (k % 8) ∧ errB l (k : Int) = 0 := by
      intro k hk
      obtain ⟨h1, h2, h3⟩ := bit_yes hR (show bitOk l (k : Int) = true by unfold bitOk; simp; omega)
      refine ⟨by rw [h1]; omega, ?_, h3⟩
      rw [h2, show ((k : Int) % 8).toNat = k % 8 by omega]
    have hN5 : N ≤ 512 := by omega
    have hdaN : da ≤ N := by omega
    have hbiN : bi < N := by omega
    have HED := hid hEd; have HUD := hid hUd; have HRE := hid hrE; have HRB := hid hrB; have HRB2 := hid hrB2; have HB4 := hid hb4; have HBT := hid BT; have HBY := hid BY; have HWT := hid WT
    have H := hid h
    clear hw hD hEd hok hblk hBB hrE hrB hrB2 hUd BT BY WT hb4 hR hin hNl h
    obtain ⟨b0, b1, b2, b3, b4, b5, b6⟩ := l
    simp only [Lay.val, spV] at WR HWT HBT hbl hbi hda ⊢
    subst hbl hbi hda
    obtain ⟨W0, hW0⟩ : ∃ W0, W0 = w.alloc (.cells #[.int .i64 (N : Int), .int .i64 b1, .int .i64 b2, .int .i64 (bi : Int), .int .i64 b4, .int .i64 b5, .int .i64 (da : Int)] 39) := ⟨_, rfl⟩
    have hrow := heap_alloc_new w (.cells #[.int .i64 (N : Int), .int .i64 b1, .int .i64 b2, .int .i64 (bi : Int), .int .i64 b4, .int .i64 b5, .int .i64 (da : Int)] 39)
    have hB0 := hb0 (.cells #[.int .i64 (N : Int), .int .i64 b1, .int .i64 b2, .int .i64 (bi : Int), .int .i64 b4, .int .i64 b5, .int .i64 (da : Int)] 39)
    rw [← hW0] at hrow hB0
    have WR := WR W0
    have HW0 := hid hW0; have HROW := hid hrow; have HB0 := hid hB0
    rw [hW0] at WR
    clear hW0 hrow hB0 hb0
    go_enter Try.func29, Try.ntmps29
    go_wp2_with fail
    refine WR.mono ?_
    rw [← HW0.out]
    rintro e w1 ⟨rfl, b1'⟩
    have hb1 := HB0.out.trans (b1'.mono HB0.out.size)
    have hrow1 := (b1'.block _ (heap_in HROW.out)).trans HROW.out
    obtain ⟨y0, y1, y2, y3, y4, y5, y6⟩ := cells7b hrow1
    have RD := Read_is w1 P (H.out.below hb1) hl (bi : Int) (by omega)
    have HB1 := hid hb1; have HROW1 := hid hrow1
    clear WR b1' hb1 hrow1
    go_wp2_with fail
    refine RD.mono ?_
    rintro e w2 ⟨⟨A2, c2, N2, rfl, hN2, ho2⟩, hi2, hk2⟩
    have hSw : ¬ S w.heap.size := fun hs => by have := (H.out.blocks hs).2.1; omega
    have hrow2 := (hk2.block _ (heap_in HROW1.out) hSw).trans HROW1.out
    have hkw : Kpt S w w2 := (Kpt.of_below HB1.out).trans hk2
    rw [HRE.out]
    cases hs : d.spent with
    | true => as_aux_lemma =>
      have hE := HED.out
      rw [hs] at hE
      simp only [if_true] at hE ⊢
      have hU := HUD.out
      rw [hE, if_neg (by decide)] at hU
      have HE := hid hE; have HU := hid hU; have HI := hid hi2; have HK := hid hkw
      clear hE hU hi2 hkw hrow2 hN2 ho2 hk2 RD y0 y1 y2 y3 y4 y5 y6 hs HED
      go_wp2
      refine bodyPost_ret (v := .tuple #[.slice none 0 0, .int .i64 4]) (by simp [results, Try.results29, go_sem]) rfl ⟨⟨none, 0, 0, by rw [HE.out], by rw [HU.out]; rfl, by rw [HU.out]; exact World.ownsRow_nil _ _ _ _⟩, HI.out, HK.out⟩
    | false => as_aux_lemma =>
      have hE := HED.out
      rw [hs] at hE
      simp only [Bool.false_eq_true, if_false] at hE ⊢
      rw [HRB.out hs, HB4.out] at hN2
      rw [HRB.out hs] at ho2
      subst hN2
      obtain ⟨g, rfl, hg1, hg2⟩ := own_adrP ho2 (by intro e; have := HB4.out; rw [e] at this; simp at this)
      obtain ⟨y0, y1, y2, y3, y4, y5, y6⟩ := cells7b hrow2
      have HE := hid hE; have HI := hid hi2; have HK := hid hkw; have HROW2 := hid hrow2; have HO := hid ho2
      have hsz2 := hkw.size
      clear hE hi2 hkw hrow2 ho2 hk2 RD hs HED
      go_wp2_with fail
      go_loopw [9, 35] (fun vo i wr => ∃ k oa oc, k ≤ N ∧ i = .int .i64 ((k : Nat) : Int) ∧ vo = .slice oa k oc ∧ wr.ownsRow w2.heap.size 4 1 (.slice oa k oc) k (BvL (usedOf blk k)) ∧ Below w2.heap.size w2 wr) (fun _ i _ => N - (intOf i).toNat)
      case atStart => exact ⟨0, none, 0, Nat.zero_le _, rfl, rfl, World.ownsRow_nil _ _ _ _, Below.refl _ _⟩
      case round => as_aux_lemma =>
        clear y0 y1 y2 y3 y4 y5 y6
        obtain ⟨k, oa, oc, hk, rfl, rfl, q1, q3⟩ := hrel
        obtain ⟨y0, y1, y2, y3, y4, y5, y6⟩ := cells7b ((q3.block _ (heap_in HROW2.out)).trans HROW2.out)
        by_cases hlt : k < N
        · have BT := HBT.out wr k hlt
          obtain ⟨e1, e2, e3⟩ := HBY.out k hlt
          rw [e1, e2, e3] at BT
          obtain ⟨p, hp⟩ : ∃ p, p = k / 8 := ⟨_, rfl⟩
          have hp4 : p < 4096 := by omega
          have hpI : (p : Int) < 4096 := by omega
          rw [← hp] at BT
          have hq : 2 ^ (k % 8) < 256 := by
            have : ∀ r, r < 8 → 2 ^ r < 256 := by decide
            exact this _ (by omega)
          have hbt : ((bat blk p).toNat &&& 2 ^ (k % 8) != 0) = bitOf blk k := by
            rw [and_bit _ _ (by omega), hp]
            rfl
          generalize 2 ^ (k % 8) = q at BT hq hbt
          have HS := hid (usedOf_succ blk k)
          have HQ1 := hid q1; have HQ3 := hid q3
          clear e1 e2 e3 q1 q3 hp
          go_wp2_with fail
          refine BT.mono ?_
          rintro e w3 ⟨rfl, b3⟩
          clear BT y0 y1 y2 y3 y4 y5 y6
          have hq3 := HQ3.out.trans (b3.mono HQ3.out.size)
          have hq1 := own_below HQ1.out b3
          obtain ⟨_, e, _, x0, _⟩ := (HO.out.below hq3).at_ (by intro e; have := HB4.out; rw [e] at this; simp at this)
          have e := Option.some.inj e
          simp only [Addr.mk.injEq, and_true] at e
          subst e
          have x1 := x0 p (by rw [HB4.out]; exact hp4)
          have hx := (bat blk p).toNat_lt
          have hand := and8 (bat blk p).toNat q hx hq
          generalize (bat blk p).toNat = X at *
          have hcmp : ((bits .and .u8 (X : Int) (q : Int)) != 0) = bitOf blk k := by
            rw [hand, ← hbt]
            by_cases e : X &&& q = 0
            · rw [e]; rfl
            · have e1 : ((X &&& q : Nat) : Int) ≠ 0 := by omega
              rw [bne_iff_ne.2 e, bne_iff_ne.2 e1]
          obtain ⟨bt, hbe⟩ : ∃ bt, bt = bitOf blk k := ⟨_, rfl⟩
          rw [← hbe] at hcmp
          have HBE := hid hbe
          have ba : Below w3.heap.size w3 (w3.alloc (.cells #[.bool bt] 4)) := (Below.refl _ _).alloc (Nat.le_refl _) _
          have hq15 := own_below hq1 ba
          have hq35 := hq3.trans (ba.mono hq3.size)
          clear x0 hx hand hbt hq3 hq1 ba hbe b3 hp4
          have Q15 := hid hq15; have Q35 := hid hq35
          clear hq15 hq35
          go_wp2_with (with_reducible refine app_own rfl (.tmp 45) (.tmp 53) 42 4 (.bool false) 1 1 rfl Try.underlying42 info_bo rfl (by decide) (by decide) w2.heap.size (.slice oa k oc) k (BvL (usedOf blk k)) rfl Q15.out (some ⟨w3.heap.size, 0, none⟩) 1 1 [.bool bt] rfl rfl RdV.one (by simp [Value.oneCell']) (by omega) w2 Q35.out Q35.out.size ?_; intro A1 c1 w6 h6a h6b h6c h6d)
          go_roundw
          case rel => exact ⟨k + 1, A1, c1, by omega, by go_num, rfl, by rw [HS.out, ← HBE.out]; simpa [BvL] using h6a, h6b⟩
          case measure => simp [intOf]; omega
        · obtain rfl : k = N := by omega
          have hcap := own_cap q1
          obtain ⟨gO, oc', eo, _, _⟩ := own_sl1 q1 (by omega)
          simp only [Value.slice.injEq, true_and] at eo
          obtain ⟨rfl, rfl⟩ := eo
          have hrd : RdV wr (some ⟨gO, 0, none⟩) (BvL (usedOf blk k)) := own_rdV q1 (by rw [BvL_length, usedOf_length, Nat.mul_one])
          have htk : RdV wr (some ⟨gO, 0, none⟩) (BvL ((usedOf blk k).take da)) := by
            intro hn
            obtain ⟨b, off, e, hc⟩ := hrd (by intro e; have := BvL_length (usedOf blk k); rw [e, usedOf_length] at this; simp at this; omega)
            refine ⟨b, off, e, fun j u hu => hc j u ?_⟩
            unfold BvL at hu ⊢
            rw [List.map_take, List.getElem?_take] at hu
            split at hu
            · exact hu
            · cases hu
          have CT := Contains_any wr (some ⟨gO, 0, none⟩) da oc ((usedOf blk k).take da) (by rw [List.length_take, usedOf_length]; omega) (by omega) htk false
          rw [used_no blk k da hdaN] at CT
          have hdI : (da : Int) ≤ (oc : Int) := by have := hcap.1; omega
          have HQ1 := hid q1; have HQ3 := hid q3; have HRD := hid hrd
          have hgd : goodB blk da k = ((List.range da).all (bitOf blk) && (wrB (usedOf blk k) == blk)) := rfl
          have HGD := hid hgd
          clear q1 q3 hrd htk hcap hgd
          cases hA : (List.range da).all (bitOf blk) with
          | false => as_aux_lemma =>
            rw [hA, Bool.not_false] at CT
            have hE := HE.out
            have hg := HGD.out
            rw [hA, Bool.false_and] at hg
            rw [hg, if_neg (by decide)] at hE
            have hU := HUD.out
            rw [hE, if_neg (by decide)] at hU
            have HE2 := hid hE; have HU := hid hU
            clear hA hE hg hU
            go_wp2_with fail
            refine CT.mono ?_
            rintro e w3 ⟨rfl, rfl⟩
            clear CT
            go_wp2
            refine bodyPost_ret (v := .tuple #[.slice none 0 0, .int .i64 30]) (by simp [results, Try.results29, go_sem]) rfl ⟨⟨none, 0, 0, by rw [HE2.out], by rw [HU.out]; rfl, by rw [HU.out]; exact World.ownsRow_nil _ _ _ _⟩, HI.out.below HQ3.out, HK.out.trans (Kpt.of_below HQ3.out)⟩
          | true => as_aux_lemma =>
            rw [hA, Bool.not_true] at CT
            have WT := HWT.out wr (some ⟨gO, 0, none⟩) oc HRD.out
            have HA := hid hA
            clear hA
            go_wp2_with fail
            refine CT.mono ?_
            rintro e w3 ⟨rfl, rfl⟩
            clear CT
            go_wp2_with fail
            refine WT.mono ?_
            rintro e w4 ⟨g', rfl, o4, b4⟩
            clear WT y0 y1 y2 y3 y4 y5 y6
            have EQ := Equal_any w4 (some ⟨g', 0, none⟩) (some ⟨g, 0, none⟩) 4096 c2 4096 4096 (wrB (usedOf blk k)) blk (wrB_length _).symm HB4.out.symm o4.rd ((HO.out.below HQ3.out).below b4).rd
            have hb4' := HQ3.out.trans (b4.mono HQ3.out.size)
            have HB' := hid hb4'; have HQ4 := hid (own_mono (own_below HQ1.out b4) hsz2)
            clear o4 b4 hb4'
            cases hW : (wrB (usedOf blk k) == blk) with
            | false =>
              rw [hW] at EQ
              have hE := HE.out
              have hg := HGD.out
              rw [HA.out, hW] at hg
              rw [hg, if_neg (by decide)] at hE
              have hU := HUD.out
              rw [hE, if_neg (by decide)] at hU
              have HE2 := hid hE; have HU := hid hU
              clear hW hE hg hU
              go_wp2_with fail
              refine EQ.mono ?_
              rintro e w5 ⟨rfl, rfl⟩
              clear EQ
              go_wp2
              refine bodyPost_ret (v := .tuple #[.slice none 0 0, .int .i64 30]) (by simp [results, Try.results29, go_sem]) rfl ⟨⟨none, 0, 0, by rw [HE2.out], by rw [HU.out]; rfl, by rw [HU.out]; exact World.ownsRow_nil _ _ _ _⟩, HI.out.below HB'.out, HK.out.trans (Kpt.of_below HB'.out)⟩
            | true =>
              rw [hW] at EQ
              have hE := HE.out
              have hg := HGD.out
              rw [HA.out, hW] at hg
              rw [hg, if_pos (by decide)] at hE
              have hU := HUD.out
              rw [hE, if_pos rfl] at hU
              have HE2 := hid hE; have HU := hid hU
              clear hW hE hg hU
              go_wp2_with fail
              refine EQ.mono ?_
              rintro e w5 ⟨rfl, rfl⟩
              clear EQ
              go_wp2
              refine bodyPost_ret (v := .tuple #[.slice (some ⟨gO, 0, none⟩) k oc, .int .i64 0]) (by simp [results, Try.results29, go_sem]) rfl ⟨⟨some ⟨gO, 0, none⟩, k, oc, by rw [HE2.out], by rw [HU.out, usedOf_length], by rw [HU.out]; exact HQ4.out⟩, HI.out.below HB'.out, HK.out.trans (Kpt.of_below HB'.out)⟩
end Go.Proofs.Ytahlhdhljjpeoaa

/- bits.where (printed by gen24c.py). -/
namespace Go.Proofs.Ytahlhdhljjpeoaa
open Go.RowKit
variable {Q : Nat → Prop}
set_option maxHeartbeats 1500000
set_option maxRecDepth 100000
set_option linter.unusedVariables false
set_option linter.unusedSimpArgs false

def whE (d : Pl) (l : Lay) (i : Int) : Int := if inoOk l i = true then d.rdE (inoB l i) else 2
def whB (d : Pl) (l : Lay) (i : Int) : List UInt8 := if inoOk l i = true then d.rdB (inoB l i) else []
def whD (d : Pl) (l : Lay) (i : Int) : Pl := if inoOk l i = true then d.tick else d
def WherePost (Q : Nat → Prop) (base : Nat) (w : World) (P : Nat) (S : Nat → Prop) (d : Pl) (l : Lay) (i : Int) (e : Ending) (w' : World) : Prop :=
  (∃ A N c, e = .returned (.tuple #[.int .i64 (inoB l i), .int .i64 (inoA l i), .slice A N c, .int .i64 (whE d l i)]) ∧ N = (whB d l i).length ∧ OwnB w.heap.size w' A c (whB d l i)) ∧ IsPl Q base w' P S (whD d l i) ∧ Kpt S w w'
theorem where_is {base : Nat} (w : World) (P : Nat) {S : Nat → Prop} {d : Pl} (h : IsPl Q base w P S d) (hl : -100000000 ≤ d.left) (l : Lay) (i : Int) (hi : -9223372036854775808 ≤ i ∧ i ≤ 9223372036854775807) :
    Calls Try.prog 63 #[spV P, l.val, .int .i64 i] w (WherePost Q base w P S d l i) := by
  have WR := fun w => bitsWrong_any w P l
  have IN := fun w => Inode_any w l i hi
  cases hok : inoOk l i with
  | false =>
    obtain ⟨n1, n2, n3⟩ := ino_no hok
    have hE : whE d l i = 2 := by simp [whE, hok]
    have hB : whB d l i = [] := by simp [whB, hok]
    have hD : whD d l i = d := by simp [whD, hok]
    unfold WherePost
    rw [hE, hB, hD, n1, n2]
    simp only [n1, n2, n3] at IN
    have H := hid h
    cases hR : rightL l with
    | false =>
      have hw : wrgE l = 2 := by simp [wrgE, hR]
      simp only [hw] at WR
      clear hE hB hD n1 n2 n3 hok hR hw h
      obtain ⟨b0, b1, b2, b3, b4, b5, b6⟩ := l
      simp only [Lay.val, spV] at WR ⊢
      obtain ⟨W0, hW0⟩ : ∃ W0, W0 = w.alloc (.cells #[.int .i64 b0, .int .i64 b1, .int .i64 b2, .int .i64 b3, .int .i64 b4, .int .i64 b5, .int .i64 b6] 39) := ⟨_, rfl⟩
      have hrow := heap_alloc_new w (.cells #[.int .i64 b0, .int .i64 b1, .int .i64 b2, .int .i64 b3, .int .i64 b4, .int .i64 b5, .int .i64 b6] 39)
      have hB0 : Below w.heap.size w (w.alloc (.cells #[.int .i64 b0, .int .i64 b1, .int .i64 b2, .int .i64 b3, .int .i64 b4, .int .i64 b5, .int .i64 b6] 39)) := (Below.refl _ _).alloc (Nat.le_refl _) _
      rw [← hW0] at hrow hB0
      have WR := WR W0
      have HW0 := hid hW0; have HROW := hid hrow; have HB0 := hid hB0
      rw [hW0] at WR
      clear hW0 hrow hB0
      go_enter Try.func63, Try.ntmps63
      go_wp2_with fail
      refine WR.mono ?_
      rw [← HW0.out]
      rintro e w1 ⟨rfl, b1'⟩
      have HB := hid (HB0.out.trans (b1'.mono HB0.out.size))
      clear WR b1'
      go_wp2
      refine bodyPost_ret (v := .tuple #[.int .i64 0, .int .i64 0, .slice none 0 0, .int .i64 2]) (by simp [results, Try.results63, go_sem]) rfl ⟨⟨none, 0, 0, rfl, rfl, OwnB.nil _ _⟩, H.out.below HB.out, Kpt.of_below HB.out⟩
    | true =>
      have hw : wrgE l = 0 := by simp [wrgE, hR]
      simp only [hw] at WR
      clear hE hB hD n1 n2 n3 hok hR hw h
      obtain ⟨b0, b1, b2, b3, b4, b5, b6⟩ := l
      simp only [Lay.val, spV] at WR IN ⊢
      obtain ⟨W0, hW0⟩ : ∃ W0, W0 = w.alloc (.cells #[.int .i64 b0, .int .i64 b1, .int .i64 b2, .int .i64 b3, .int .i64 b4, .int .i64 b5, .int .i64 b6] 39) := ⟨_, rfl⟩
      have hrow := heap_alloc_new w (.cells #[.int .i64 b0, .int .i64 b1, .int .i64 b2, .int .i64 b3, .int .i64 b4, .int .i64 b5, .int .i64 b6] 39)
      have hB0 : Below w.heap.size w (w.alloc (.cells #[.int .i64 b0, .int .i64 b1, .int .i64 b2, .int .i64 b3, .int .i64 b4, .int .i64 b5, .int .i64 b6] 39)) := (Below.refl _ _).alloc (Nat.le_refl _) _
      rw [← hW0] at hrow hB0
      have WR := WR W0
      have HW0 := hid hW0; have HROW := hid hrow; have HB0 := hid hB0
      rw [hW0] at WR
      clear hW0 hrow hB0
      go_enter Try.func63, Try.ntmps63
      go_wp2_with fail
      refine WR.mono ?_
      rw [← HW0.out]
      rintro e w1 ⟨rfl, b1'⟩
      obtain ⟨y0, y1, y2, y3, y4, y5, y6⟩ := cells7b ((b1'.block _ (heap_in HROW.out)).trans HROW.out)
      have HB := hid (HB0.out.trans (b1'.mono HB0.out.size))
      clear WR b1'
      go_wp2_with fail
      refine (IN w1).mono ?_
      rintro e w2 ⟨rfl, b2'⟩
      have HB2 := hid (HB.out.trans (b2'.mono HB.out.size))
      clear IN b2' y0 y1 y2 y3 y4 y5 y6
      go_wp2
      refine bodyPost_ret (v := .tuple #[.int .i64 0, .int .i64 0, .slice none 0 0, .int .i64 2]) (by simp [results, Try.results63, go_sem]) rfl ⟨⟨none, 0, 0, rfl, rfl, OwnB.nil _ _⟩, H.out.below HB2.out, Kpt.of_below HB2.out⟩
  | true =>
    have hR : rightL l = true := by unfold inoOk at hok; simp only [Bool.and_eq_true] at hok; exact hok.1
    have hw : wrgE l = 0 := by simp [wrgE, hR]
    simp only [hw] at WR
    obtain ⟨n1, n2, n3⟩ := ino_yes hok
    have hib := right_in hR
    have hio : 1 ≤ i ∧ i ≤ l.ib * 64 := by unfold inoOk at hok; simp only [Bool.and_eq_true, decide_eq_true_eq] at hok; exact hok.2
    have hE : whE d l i = d.rdE (inoB l i) := by simp [whE, hok]
    have hB : whB d l i = d.rdB (inoB l i) := by simp [whB, hok]
    have hD : whD d l i = d.tick := by simp [whD, hok]
    unfold WherePost
    rw [hE, hB, hD]
    simp only [n3] at IN
    have hr : -9223372036854775808 ≤ inoB l i ∧ inoB l i ≤ 9223372036854775807 := by omega
    have ID := fun (W : World) (hW : IsPl Q base W P S d) => inodes_is W P hW hl (inoB l i) hr
    have H := hid h; have HID := hid ID
    clear hE hB hD n1 n2 n3 hok hR hw hib hio h ID hr
    generalize inoB l i = xb at *
    generalize inoA l i = xa at *
    obtain ⟨b0, b1, b2, b3, b4, b5, b6⟩ := l
    simp only [Lay.val, spV] at WR IN HID ⊢
    obtain ⟨W0, hW0⟩ : ∃ W0, W0 = w.alloc (.cells #[.int .i64 b0, .int .i64 b1, .int .i64 b2, .int .i64 b3, .int .i64 b4, .int .i64 b5, .int .i64 b6] 39) := ⟨_, rfl⟩
    have hrow := heap_alloc_new w (.cells #[.int .i64 b0, .int .i64 b1, .int .i64 b2, .int .i64 b3, .int .i64 b4, .int .i64 b5, .int .i64 b6] 39)
    have hB0 : Below w.heap.size w (w.alloc (.cells #[.int .i64 b0, .int .i64 b1, .int .i64 b2, .int .i64 b3, .int .i64 b4, .int .i64 b5, .int .i64 b6] 39)) := (Below.refl _ _).alloc (Nat.le_refl _) _
    rw [← hW0] at hrow hB0
    have WR := WR W0
    have HW0 := hid hW0; have HROW := hid hrow; have HB0 := hid hB0
    rw [hW0] at WR
    clear hW0 hrow hB0
    go_enter Try.func63, Try.ntmps63
    go_wp2_with fail
    refine WR.mono ?_
    rw [← HW0.out]
    rintro e w1 ⟨rfl, b1'⟩
    obtain ⟨y0, y1, y2, y3, y4, y5, y6⟩ := cells7b ((b1'.block _ (heap_in HROW.out)).trans HROW.out)
    have HB := hid (HB0.out.trans (b1'.mono HB0.out.size))
    clear WR b1'
    go_wp2_with fail
    refine (IN w1).mono ?_
    rintro e w2 ⟨rfl, b2'⟩
    have HB2 := hid (HB.out.trans (b2'.mono HB.out.size))
    have ID := HID.out w2 (H.out.below HB2.out)
    clear IN b2' y0 y1 y2 y3 y4 y5 y6 HID
    go_wp2_with fail
    refine ID.mono ?_
    rintro e w3 ⟨⟨A, c, N, rfl, hN, ho⟩, hi3, hk3⟩
    have HN := hid hN; have HO := hid (ho.mono HB2.out.size); have HI := hid hi3; have HK := hid ((Kpt.of_below HB2.out).trans hk3)
    clear ID hN ho hi3 hk3
    go_wp2
    refine bodyPost_ret (v := .tuple #[.int .i64 xb, .int .i64 xa, .slice A N c, .int .i64 (d.rdE xb)]) (by simp [results, Try.results63, go_sem]) rfl ⟨⟨A, N, c, rfl, HN.out, HO.out⟩, HI.out, HK.out⟩
end Go.Proofs.Ytahlhdhljjpeoaa

/- bits.Empty (printed by gen24d.py). -/
namespace Go.Proofs.Ytahlhdhljjpeoaa
open Go.RowKit
variable {Q : Nat → Prop}
set_option maxHeartbeats 3200000
set_option maxRecDepth 100000
set_option linter.unusedVariables false
set_option linter.unusedSimpArgs false

theorem run_mkBo (n : Nat) (hn : n ≤ 1000000) (W : World) : (Instr.makeSlice 42 (.int .i64 (n : Int)) (.int .i64 (n : Int))).run Try.prog W = .ok (.slice (some ⟨W.heap.size, 0, none⟩) n n) (W.alloc (.cells (madeCells #[.bool false] n) 4)) := by
  obtain ⟨i0, hi, hz0, hz1, hz2⟩ := info_parts info_bo
  have := run_make (P := Try.prog) W 42 4 i0 (.bool false) Try.underlying42 hi hz0 .i64 .i64 (n : Int) (n : Int) (by omega) (by omega) (by rw [hz2]; omega) (by omega)
  rw [this, hz1]
  simp only [Int.toNat_natCast, Nat.mul_one]
  rfl
theorem nilA (P : Nat) (W : World) : (nilAhead 282 37 (.pointer (some ⟨P, 0, none⟩)) "Write").run Try.prog W = .ok (some false) W := by
  first | rfl | kernel_rfl | simp [nilAhead, go_sem]
def QT : Nat → Prop := fun _ => True
/-- So many writes, until one fails. -/
def emRun : Pl → List (Nat × List UInt8) → Pl × Int
  | d, [] => (d, 0)
  | d, x :: xs => if d.spent = true then (d.tick, 4) else emRun (d.tick.put x.1 x.2) xs
theorem Write_is {base : Nat} (w : World) (P : Nat) {S : Nat → Prop} {d : Pl} (h : IsPl QT base w P S d) (hl : -100000000 ≤ d.left) (m : Nat) (hm : m < d.b.length) (a : Option Addr) (c : Nat) (l : List UInt8) (h4 : l.length = 4096) (hr : RdB w a l) (hd : d.did ≤ 1000000) (hPa : ∀ b, a.map (·.block) = some b → b ≠ P) :
    Calls Try.prog 46 #[.pointer (some ⟨P, 0, none⟩), .int .i64 (m : Int), .slice a 4096 c] w fun e w' => e = .returned (.int .i64 (if d.spent = true then 4 else 0)) ∧ TurnP QT base w P S w' (if d.spent = true then d.tick else d.tick.put m l) := by
  cases hs : d.spent with
  | true => exact Write_no w P h hl m a c 4096 hs
  | false => exact Write_yes w P h hl (fun _ _ => trivial) m hm a c l h4 hr hd hs hPa
end Go.Proofs.Ytahlhdhljjpeoaa
