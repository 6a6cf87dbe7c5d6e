/- ledgerstonelow's functions on extents and inodes. -/
import Derived.Test.YtahlhdhljjpeoaaInode
import Derived.Test.YtahlhdhljjpeoaaSetO
import Derived.Deep.QuietTactic
import Derived.BigQuiet
namespace Go.Proofs.Ytahlhdhljjpeoaa
open Go.RowKit
set_option maxHeartbeats 1600000
set_option linter.unusedVariables false
set_option linter.unusedSimpArgs false

/-- The first k are the same. -/
def SameTo (l r : List Ext) (k : Nat) : Prop := l.take k = r.take k
theorem SameTo.succ {l r : List Ext} {k : Nat} (h : SameTo l r k) (hl : k < l.length) (hr : k < r.length) (he : xat l k = xat r k) : SameTo l r (k + 1) := by
  unfold SameTo at *
  rw [List.take_succ_eq_append_getElem hl, List.take_succ_eq_append_getElem hr, h]
  simp only [xat, List.getD_eq_getElem?_getD, List.getElem?_eq_getElem hl, List.getElem?_eq_getElem hr, Option.getD_some] at he
  rw [he]
theorem ext_ne {l r : List Ext} {k : Nat} (hl : k < l.length) (h : ¬ xat l k = xat r k) : decide (l = r) = false := by
  refine decide_eq_false ?_
  rintro rfl
  exact h rfl
theorem below_drewN2 {B : Nat} {a w : World} (h : Below B a w) (n : Nat) : Below B a (w.drewN n) := ⟨h.os, h.tape, h.output, h.size, h.block⟩
theorem SameExtents_any (w : World) (a b : Option Addr) (c d N M : Nat) (l r : List Ext) (hN : N = l.length) (hM : M = r.length) (hl : l.length ≤ 7000000000000) (hr1 : RdX w a l) (hr2 : RdX w b r) :
    Calls Try.prog 40 #[.slice a N c, .slice b M d] w fun e w' => e = .returned (.bool (decide (l = r))) ∧ Below w.heap.size w w' := by
  subst hN hM
  by_cases hlen : l.length = r.length
  · have hM : r.length ≤ 7000000000000 := by omega
    obtain ⟨n, hn⟩ : ∃ n, n = l.length := ⟨_, rfl⟩
    have HL := hid (show l.length = n from hn.symm)
    have HR := hid (show r.length = n by omega)
    rw [← hlen, ← hn]
    have hn2 : n ≤ 7000000000000 := by omega
    obtain ⟨D, hD⟩ : ∃ D, D = decide (l = r) := ⟨_, rfl⟩
    rw [← hD]
    have HD := hid hD
    clear hlen hM hn hl hD
    go_enter Try.func40, Try.ntmps40
    go_wp2
    go_loopw [5] (fun i wr => ∃ k : Nat, k ≤ n ∧ i = .int .i64 k ∧ SameTo l r k ∧ Below w.heap.size w wr) (fun i _ => n - (intOf i).toNat)
    case atStart => exact ⟨0, by omega, rfl, rfl, Below.refl _ _⟩
    case round =>
      obtain ⟨k, hk, rfl, hS, hbl⟩ := hrel
      by_cases hlt : k < n
      · have hkl : k < l.length := by rw [HL.out]; exact hlt
        have hkr : k < r.length := by rw [HR.out]; exact hlt
        obtain ⟨b1, o1, rfl, hc1⟩ := (hr1.below hbl).at_ (by intro e; rw [e] at hkl; simp at hkl)
        obtain ⟨b2, o2, rfl, hc2⟩ := (hr2.below hbl).at_ (by intro e; rw [e] at hkr; simp at hkr)
        obtain ⟨p0, p1, p2⟩ := hc1 k hkl
        obtain ⟨q0, q1, q2⟩ := hc2 k hkr
        have HKL := hid hkl; have HKR := hid hkr
        clear hc1 hc2 hkl hkr
        have HX := hid (show xat l k = xat r k ↔ (xat l k).at_ = (xat r k).at_ ∧ (xat l k).st = (xat r k).st ∧ (xat l k).ct = (xat r k).ct by rw [Ext.mk.injEq])
        obtain ⟨x, hx1⟩ : ∃ x, x = xat l k := ⟨_, rfl⟩
        obtain ⟨y, hy1⟩ : ∃ y, y = xat r k := ⟨_, rfl⟩
        rw [← hx1] at p0 p1 p2; rw [← hy1] at q0 q1 q2
        rw [← hx1, ← hy1] at HX
        have HX1 := hid hx1; have HY1 := hid hy1; clear hx1 hy1
        obtain ⟨x1, x2, x3⟩ := x
        obtain ⟨y1, y2, y3⟩ := y
        simp only at p0 p1 p2 q0 q1 q2
        have i0 : (0 : Int) ≤ (k : Int) := by omega
        have i1 : (k : Int) < (n : Int) := by omega
        have hfalse : ¬ (x1 = y1 ∧ x2 = y2 ∧ x3 = y3) → D = false := by
          intro h
          rw [HD.out]
          refine ext_ne HKL.out ?_
          rw [← HX1.out, ← HY1.out]
          intro h2
          rw [Ext.mk.injEq] at h2
          exact h h2
        have HF := hid hfalse; clear hfalse
        have HT := hid (fun h : x1 = y1 ∧ x2 = y2 ∧ x3 = y3 => hS.succ HKL.out HKR.out (by rw [← HX1.out, ← HY1.out, Ext.mk.injEq]; exact h))
        by_cases c1 : x1 = y1
        · subst c1
          by_cases c2 : x2 = y2
          · subst c2
            by_cases c3 : x3 = y3
            · subst c3
              go_wp2
              go_quiet (fail)
              go_wp2
              go_roundw
              case rel => exact ⟨k + 1, by omega, by go_num, HT.out (by simp), below_drewN2 hbl _⟩
              case measure => simp [intOf]; omega
            · have hd := hid (HF.out (fun h => c3 h.2.2))
              go_wp2
              go_quiet (fail)
              go_wp2
              go_ret
              exact ⟨by rw [hd.out]; rfl, below_drewN2 hbl _⟩
          · have hd := hid (HF.out (fun h => c2 h.2.1))
            go_wp2
            go_quiet (fail)
            go_wp2
            go_ret
            exact ⟨by rw [hd.out]; rfl, below_drewN2 hbl _⟩
        · have hd := hid (HF.out (fun h => c1 h.1))
          go_wp2
          go_quiet (fail)
          go_wp2
          go_ret
          exact ⟨by rw [hd.out]; rfl, below_drewN2 hbl _⟩
      · obtain rfl : k = n := by omega
        go_wp2
        go_ret
        refine ⟨?_, hbl⟩
        have e : l = r := by
          have := hS
          unfold SameTo at this
          rw [List.take_of_length_le (by rw [HL.out]; omega), List.take_of_length_le (by rw [HR.out]; omega)] at this
          exact this
        rw [HD.out, decide_eq_true e]
        rfl
  · have hd : decide (l = r) = false := decide_eq_false (by rintro rfl; exact hlen rfl)
    rw [hd]
    have hb : ((l.length : Int) == (r.length : Int)) = false := by rw [beq_eq_false_iff_ne]; omega
    clear hd
    go_enter Try.func40, Try.ntmps40
    go_wp2
    go_ret
    exact ⟨rfl, Below.refl _ _⟩
set_option maxRecDepth 100000 in
theorem SameInode_any (w : World) (m n : Ind) (a b : Option Addr) (c d : Nat) (hm : m.dir.length ≤ 7000000000000) (hr1 : RdX w a m.dir) (hr2 : RdX w b n.dir) :
    Calls Try.prog 35 #[m.val a c, n.val b d] w fun e w' => e = .returned (.bool (decide (m = n))) ∧ Below w.heap.size w w' := by
  obtain ⟨k, ln, sz, nd, l⟩ := m
  obtain ⟨k', ln', sz', nd', l'⟩ := n
  simp only [Ind.val, indCells] at *
  have hb2 : Below w.heap.size w ((w.alloc (.cells #[.int .u8 (k : Int), .int .i64 ln, .int .i64 sz, .slice a l.length c, .int .i64 nd] 54)).alloc (.cells #[.int .u8 (k' : Int), .int .i64 ln', .int .i64 sz', .slice b l'.length d, .int .i64 nd'] 54)) := below_two (Below.refl _ w) (Nat.le_refl _) _ _
  have S := fun W h1 h2 => SameExtents_any W a b c d _ _ l l' rfl rfl hm h1 h2
  have hx1 := hid (RdX.below hr1 hb2)
  have hx2 := hid (RdX.below hr2 hb2)
  obtain ⟨D, hD⟩ : ∃ D, D = decide ((⟨k, ln, sz, nd, l⟩ : Ind) = ⟨k', ln', sz', nd', l'⟩) := ⟨_, rfl⟩
  rw [← hD]
  have hno : ¬ (k = k' ∧ ln = ln' ∧ sz = sz' ∧ nd = nd') → D = false := by
    intro h
    rw [hD]
    refine decide_eq_false ?_
    intro h2
    rw [Ind.mk.injEq] at h2
    exact h ⟨h2.1, h2.2.1, h2.2.2.1, h2.2.2.2.1⟩
  have HN := hid hno; clear hno
  have hyes : k = k' ∧ ln = ln' ∧ sz = sz' ∧ nd = nd' → D = decide (l = l') := by
    rintro ⟨rfl, rfl, rfl, rfl⟩
    rw [hD]
    simp
  have HY := hid hyes; clear hyes hD hr1 hr2
  by_cases c1 : k = k'
  · subst c1
    by_cases c2 : ln = ln'
    · subst c2
      by_cases c3 : sz = sz'
      · subst c3
        by_cases c4 : nd = nd'
        · subst c4
          have HE := hid (HY.out ⟨rfl, rfl, rfl, rfl⟩)
          go_enter Try.func35, Try.ntmps35
          go_wp2_with fail
          refine (S _ hx1.out hx2.out).mono ?_
          rw [← HE.out]
          rintro e w1 ⟨rfl, b1⟩
          go_wp2
          go_ret
          exact ⟨rfl, hb2.trans (b1.mono hb2.size)⟩
        · have HF := hid (HN.out (fun h => c4 h.2.2.2))
          go_enter Try.func35, Try.ntmps35
          go_wp2
          go_ret
          exact ⟨by rw [HF.out]; rfl, hb2⟩
      · have HF := hid (HN.out (fun h => c3 h.2.2.1))
        go_enter Try.func35, Try.ntmps35
        go_wp2
        go_ret
        exact ⟨by rw [HF.out]; rfl, hb2⟩
    · have HF := hid (HN.out (fun h => c2 h.2.1))
      go_enter Try.func35, Try.ntmps35
      go_wp2
      go_ret
      exact ⟨by rw [HF.out]; rfl, hb2⟩
  · have HF := hid (HN.out (fun h => c1 h.1))
    have hb : ((k : Int) == (k' : Int)) = false := by rw [beq_eq_false_iff_ne]; omega
    go_enter Try.func35, Try.ntmps35
    go_wp2
    go_ret
    exact ⟨by rw [HF.out]; rfl, hb2⟩
end Go.Proofs.Ytahlhdhljjpeoaa
