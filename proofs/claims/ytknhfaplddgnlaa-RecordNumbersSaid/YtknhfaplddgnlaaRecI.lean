/- record.head: what it says, and where there is none. -/
import Derived.Test.YtknhfaplddgnlaaRecH
import Derived.Test.YtknhfaplddgnlaaOct3
namespace Go.Proofs.Ytknhfaplddgnlaa
open Go.RowKit
set_option maxHeartbeats 1000000
set_option maxRecDepth 100000
set_option linter.unusedVariables false
set_option linter.unusedSimpArgs false

def epOf (l : List UInt8) : Nat := numV l 0 8 / 1099511627776
def seqOf (l : List UInt8) : Nat := numV l 0 8 % 1099511627776
def nOf (inn : List UInt8) : Nat := numV inn 0 2
def nsOf (inn : List UInt8) (k : Nat) : List Int := (List.range k).map fun (i : Nat) => ((numV inn ((6 + 66 * i : Nat) : Int) 2 : Nat) : Int)
def hidI (inn : List UInt8) (i : Nat) : List UInt8 := (inn.drop (8 + 66 * i)).take 64
def shI (inn : List UInt8) (k : Nat) : List (List UInt8) := (List.range k).map fun i => shownB (hidI inn i) (zeros 4096)
def rdIms (inn : List UInt8) (k : Nat) : List Img := (nsOf inn k).zip (shI inn k)
/-- Is it a right group's head? -/
def isHead (l : List UInt8) : Bool := stmpD l (epOf l : Int) (seqOf l : Int) && decide (1 ≤ nOf (gathB l) ∧ nOf (gathB l) ≤ 32) && rightG (epOf l : Int) (seqOf l : Int) (rdIms (gathB l) (nOf (gathB l))) && (headB (epOf l) (seqOf l) (rdIms (gathB l) (nOf (gathB l))) == l)
theorem nsOf_length (inn : List UInt8) (k : Nat) : (nsOf inn k).length = k := by simp [nsOf]
theorem nsOf_succ (inn : List UInt8) (k : Nat) : nsOf inn (k + 1) = nsOf inn k ++ [((numV inn ((6 + 66 * k : Nat) : Int) 2 : Nat) : Int)] := by simp [nsOf, List.range_succ]
theorem nsOf_at (inn : List UInt8) (k i : Nat) (h : i < k) : (nsOf inn k)[i]? = some ((numV inn ((6 + 66 * i : Nat) : Int) 2 : Nat) : Int) := by simp [nsOf, h]
theorem shI_length (inn : List UInt8) (k : Nat) : (shI inn k).length = k := by simp [shI]
theorem shI_succ (inn : List UInt8) (k : Nat) : shI inn (k + 1) = shI inn k ++ [shownB (hidI inn k) (zeros 4096)] := by simp [shI, List.range_succ]
theorem rdIms_length (inn : List UInt8) (k : Nat) : (rdIms inn k).length = k := by simp [rdIms, nsOf_length, shI_length]
theorem hidI_length (inn : List UInt8) (k n : Nat) (h : inn.length = 4032) (hk : k < n) (hn : n ≤ 32) : (hidI inn k).length = 64 := part_length _ _ _ (by omega)
/-- The places in a head where what is hidden stands. -/
def hvals (gi ci k : Nat) : List Value := (List.range k).map fun i => .slice (some ⟨gi, 8 + 66 * i, none⟩) 64 (ci - (8 + 66 * i))
theorem hvals_length (gi ci k : Nat) : (hvals gi ci k).length = k := by simp [hvals]
theorem hvals_succ (gi ci k : Nat) : hvals gi ci (k + 1) = hvals gi ci k ++ [.slice (some ⟨gi, 8 + 66 * k, none⟩) 64 (ci - (8 + 66 * k))] := by simp [hvals, List.range_succ]
theorem hvals_at (gi ci k i : Nat) (h : i < k) : (hvals gi ci k)[i]? = some (.slice (some ⟨gi, 8 + 66 * i, none⟩) 64 (ci - (8 + 66 * i))) := by simp [hvals, h]
theorem and_mask (n : Nat) (h : n < 18446744073709551616) : bits .and .u64 (n : Int) 1099511627775 = (n : Int) % 1099511627776 := by
  have := bits_mask .u64 64 (by decide) (fun n h0 h1 => IntWalk.u64_in n (by omega)) 40 (by decide) (n : Int) (by omega) (by omega)
  simpa using this
/-- What head answers. -/
def HdPost (w : World) (l : List UInt8) (e : Ending) (w' : World) : Prop :=
  Below w.heap.size w w' ∧ ∃ (ep seq : Int) (ia : Option Addr) (im ic : Nat) (ha : Option Addr) (hm hc : Nat), e = .returned (.tuple #[.agg #[.int .i64 ep, .int .i64 seq, .slice ia im ic], .slice ha hm hc, .bool (isHead l)]) ∧
    (isHead l = true → ep = epOf l ∧ seq = seqOf l ∧ im = nOf (gathB l) ∧ hm = nOf (gathB l) ∧ ∃ gs gi ci, OwIm w.heap.size w' ia ic (nsOf (gathB l) (nOf (gathB l))) gs (List.replicate (nOf (gathB l)) (zeros 4096)) ∧
      w'.ownsRow w.heap.size 31 1 (.slice ha (nOf (gathB l)) hc) (nOf (gathB l)) (hvals gi ci (nOf (gathB l))) ∧ OwnB w.heap.size w' (some ⟨gi, 0, none⟩) ci (gathB l))
theorem isHead_no (l : List UInt8) (h : numOk l 0 8 = false ∨ stmpD l (epOf l : Int) (seqOf l : Int) = false ∨ ¬ (1 ≤ nOf (gathB l) ∧ nOf (gathB l) ≤ 32)) : isHead l = false := by
  unfold isHead
  rcases h with h | h | h
  · have : stmpD l (epOf l : Int) (seqOf l : Int) = false := by
      refine decide_eq_false ?_
      rintro ⟨_, _, _, _, h5, _⟩
      simp [numOk, h5] at h
    rw [this]
    rfl
  · rw [h]
    rfl
  · rw [decide_eq_false h]
    simp
theorem cells3 {w : World} {g : Nat} {a b c : Value} {t : TypeId} (h : w.heap[g]? = some (.cells #[a, b, c] t (0, 0))) : w.cell? ⟨g, 0, none⟩ = some a ∧ w.cell? ⟨g, 1, none⟩ = some b ∧ w.cell? ⟨g, 2, none⟩ = some c := by
  refine ⟨?_, ?_, ?_⟩ <;> (rw [cell_of_row _ _ _ _ _ _ h]; rfl)
/-- Behind three stores into a row of three cells. -/
theorem set3 {w : World} {g : Nat} {a b c : Value} {t : TypeId} (h : w.heap[g]? = some (.cells #[a, b, c] t (0, 0))) (x y z : Value) :
    (((w.setCell ⟨g, 0, none⟩ x).setCell ⟨g, 1, none⟩ y).setCell ⟨g, 2, none⟩ z).heap[g]? = some (.cells #[x, y, z] t (0, 0)) ∧ Kpt (fun b => b = g) w (((w.setCell ⟨g, 0, none⟩ x).setCell ⟨g, 1, none⟩ y).setCell ⟨g, 2, none⟩ z) := by
  have h1 := heap_setCell_same _ _ 0 _ _ x h
  have h2 := heap_setCell_same _ _ 1 _ _ y h1
  have h3 := heap_setCell_same _ _ 2 _ _ z h2
  exact ⟨h3, (((Kpt.refl (fun b => b = g) w).stc rfl x).stc rfl y).stc rfl z⟩
theorem head_no (w : World) (a : Option Addr) (N c : Nat) (l : List UInt8) (hN : N = l.length) (hl : l.length ≤ 200000000000000) (hc : l.length ≤ c ∧ c ≤ 9223372036854775807) (hr : RdB w a l)
    (hno : numOk l 0 8 = false ∨ stmpD l (epOf l : Int) (seqOf l : Int) = false) :
    Calls Try.prog 37 #[.slice a N c] w (HdPost w l) := by
  subst hN
  have hh := isHead_no l (hno.elim .inl (fun h => .inr (.inl h)))
  have hlt : numV l 0 8 < 18446744073709551616 := numV_lt l 0 8
  have hm := and_mask (numV l 0 8) hlt
  have hE : ((numV l 0 8 : Nat) : Int) / 1099511627776 = (epOf l : Int) := by unfold epOf; omega
  have hQ : ((numV l 0 8 : Nat) : Int) % 1099511627776 = (seqOf l : Int) := by unfold seqOf; omega
  rw [hQ] at hm
  have hE2 : epOf l < 16777216 := by unfold epOf; omega
  have hQ2 : seqOf l < 1099511627776 := by unfold seqOf; omega
  have U := fun W (h : RdB W a l) => U64_any W a c l.length l rfl 0 hl h (by omega)
  have hb2 : Below w.heap.size w ((w.alloc (.cells #[.int .i64 0, .int .i64 0, .slice none 0 0] 28)).alloc (.cells #[.int .i64 (epOf l : Int), .int .i64 (seqOf l : Int), .slice none 0 0] 28)) := ((Below.refl _ _).alloc (Nat.le_refl _) _).alloc (by simp) _
  have hR2 : ((w.alloc (.cells #[.int .i64 0, .int .i64 0, .slice none 0 0] 28)).alloc (.cells #[.int .i64 (epOf l : Int), .int .i64 (seqOf l : Int), .slice none 0 0] 28)).heap[w.heap.size]? = some (.cells #[.int .i64 0, .int .i64 0, .slice none 0 0] 28 (0, 0)) :=
    (Below.heap_alloc _ _ _ (by simp)).trans (heap_alloc_new w _)
  have hG2 : ((w.alloc (.cells #[.int .i64 0, .int .i64 0, .slice none 0 0] 28)).alloc (.cells #[.int .i64 (epOf l : Int), .int .i64 (seqOf l : Int), .slice none 0 0] 28)).heap[w.heap.size + 1]? = some (.cells #[.int .i64 (epOf l : Int), .int .i64 (seqOf l : Int), .slice none 0 0] 28 (0, 0)) := by
    have := heap_alloc_new (w.alloc (.cells #[.int .i64 0, .int .i64 0, .slice none 0 0] 28)) (.cells #[.int .i64 (epOf l : Int), .int .i64 (seqOf l : Int), .slice none 0 0] 28)
    rwa [World.size_alloc] at this
  have HS := Stamped_any _ a c l.length l rfl hc (hr.below hb2) (epOf l : Int) (seqOf l : Int)
  have HH := hid hh
  generalize numV l 0 8 = n at *
  generalize epOf l = E at *
  generalize seqOf l = Q at *
  clear hh
  rcases hok : numOk l 0 8
  · rw [hok] at U
    clear hno hok HS
    go_enter Try.func37, Try.ntmps37
    go_wp2_with fail
    refine (U _ (hr.below ((Below.refl _ _).alloc (Nat.le_refl _) _))).mono ?_
    rintro e w' ⟨rfl, rfl⟩
    have hR3 : ((w.alloc (.cells #[.int .i64 (E : Int), .int .i64 (Q : Int), .slice none 0 0] 28)).alloc (.cells #[.int .i64 (E : Int), .int .i64 (Q : Int), .slice none 0 0] 28)).heap[w.heap.size]? = some (.cells #[.int .i64 (E : Int), .int .i64 (Q : Int), .slice none 0 0] 28 (0, 0)) :=
      (Below.heap_alloc _ _ _ (by simp)).trans (heap_alloc_new w _)
    obtain ⟨z0, z1, z2⟩ := cells3 hR3
    have hb3 : Below w.heap.size w ((w.alloc (.cells #[.int .i64 (E : Int), .int .i64 (Q : Int), .slice none 0 0] 28)).alloc (.cells #[.int .i64 (E : Int), .int .i64 (Q : Int), .slice none 0 0] 28)) := ((Below.refl _ _).alloc (Nat.le_refl _) _).alloc (by simp) _
    have HB3 := hid hb3
    clear hb2 hR2 hG2 hb3 hR3 U hr
    go_wp2
    refine bodyPost_ret (v := .tuple #[.agg #[.int .i64 (E : Int), .int .i64 (Q : Int), .slice none 0 0], .slice none 0 0, .bool false]) ?_ rfl ⟨HB3.out, E, Q, none, 0, 0, none, 0, 0, by rw [HH.out], fun h => by rw [HH.out] at h; cases h⟩
    simp [results, Try.results37, go_sem, z0, z1, z2]
  · rw [hok] at U hno
    simp only [Bool.true_eq_false, false_or] at hno
    rw [hno] at HS
    clear hno hok
    go_enter Try.func37, Try.ntmps37
    go_wp2_with fail
    refine (U _ (hr.below ((Below.refl _ _).alloc (Nat.le_refl _) _))).mono ?_
    rintro e w' ⟨rfl, rfl⟩
    go_wp2_with fail
    refine HS.mono ?_
    rintro e w3 ⟨rfl, b3⟩
    have hb3 := hb2.trans (b3.mono hb2.size)
    have hR3 := (b3.block _ (heap_in hR2)).trans hR2
    have hG3 := (b3.block _ (heap_in hG2)).trans hG2
    obtain ⟨z0, z1, z2⟩ := cells3 hG3
    obtain ⟨y0, y1, y2⟩ := cells3 hR3
    have f0 := frozen_of_row _ w.heap.size 0 _ _ hR3
    have f1 := frozen_of_row _ w.heap.size 1 _ _ hR3
    have f2 := frozen_of_row _ w.heap.size 2 _ _ hR3
    have hs4 := hid (set3 hR3 (.int .i64 (E : Int)) (.int .i64 (Q : Int)) (.slice none 0 0))
    have HB3 := hid hb3; have HR3 := hid hR3
    clear HS hb2 hR2 hG2 hb3 hR3 hG3 U hr b3
    go_wp2
    obtain ⟨x0, x1, x2⟩ := cells3 hs4.out.1
    refine bodyPost_ret (v := .tuple #[.agg #[.int .i64 (E : Int), .int .i64 (Q : Int), .slice none 0 0], .slice none 0 0, .bool false]) ?_ rfl ⟨belowK HB3.out hs4.out.2 (fun b hb => by omega) HB3.out.size, E, Q, none, 0, 0, none, 0, 0, by rw [HH.out], fun h => by rw [HH.out] at h; cases h⟩
    simp [results, Try.results37, go_sem, x0, x1, x2]
end Go.Proofs.Ytknhfaplddgnlaa
