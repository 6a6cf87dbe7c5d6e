/- Texts joined: InoP, Low3. -/
import Derived.Deep.QuietTactic
import Derived.BigQuiet
import Derived.Test.YtahlhdhljjpeoaaGBitsInodes10
import Derived.Test.YtahlhdhljjpeoaaGBitsInodes11
import Derived.Test.YtahlhdhljjpeoaaGBitsInodes20
/- What BitsInodes looks at (plain). -/
namespace Go.Proofs.Ytahlhdhljjpeoaa
open Go.RowKit
set_option maxHeartbeats 1000000
set_option maxRecDepth 100000
set_option linter.unusedVariables false
set_option linter.unusedSimpArgs false

def LenI (I : Nat → List UInt8) : Prop := ∀ k, (I k).length = 4096
theorem lenI_zeros : LenI (fun _ => zeros 4096) := fun k => by simp [zeros]
theorem LenI.set {I : Nat → List UInt8} (h : LenI I) (s : Nat) (own : List UInt8) (ho : own.length = 64) : LenI (setI I s own) := fun k => by
  unfold setI upd
  split
  · rw [splice_lengthS _ _ _ (by rw [h, ho]; omega)]; exact h _
  · exact h k
theorem okInd_got {x : Ind} (h : okInd x = true) : gotInd (putInd x) = x ∧ gerrInd (putInd x) = 0 ∧ (putInd x).length = 64 := by
  have h1 := got_indB x h
  have h2 := putInd_length h
  unfold putInd at *
  rw [if_pos h] at h2 ⊢
  exact ⟨h1.1, h1.2, h2⟩
/-- SetInode, where the space answers. -/
theorem Sp.sei {d : Pl} {u : List Bool} {I : Nat → List UInt8} (h : Sp d L64 u I) {k : Nat} (n : Dn d 64 k) (s : Nat) (hs : s < 256) (x : Ind) (hx : okInd x = true) :
    ∃ d', seiP d L64 ((1 + s : Nat) : Int) x = (d', 0) ∧ Dn d' 64 (k + 1) ∧ Sp d' L64 u (setI I s (putInd x)) := by
  obtain ⟨ht, hsp⟩ := Pl.off n.ends
  have e := h.seiG (1 + s) (by omega) (by show 1 + s ≤ 256; omega) x hx
  simp only [ht, hsp, Bool.false_eq_true, if_false] at e
  rw [show 1 + s - 1 = s by omega] at e
  exact ⟨_, e, n.put _ _, h.putS s hs _⟩
theorem sei_no {d : Pl} {l : Lay} {x : Ind} (hR : rightL l = true) (i : Int) (hx : okInd x = false) : seiP d l i x = (d, 2) := by
  unfold seiP
  rw [if_pos hR, hx]
  rfl
theorem Sp.get {d : Pl} {u : List Bool} {I : Nat → List UInt8} (h : Sp d L64 u I) {k : Nat} (n : Dn d 64 k) (s : Nat) (hs : s < 256) :
    whE d L64 ((1 + s : Nat) : Int) = 0 ∧ whD d L64 ((1 + s : Nat) : Int) = d ∧ inPart d L64 ((1 + s : Nat) : Int) = slI I s := by
  obtain ⟨ht, hsp⟩ := Pl.off n.ends
  obtain ⟨a, b, _, c⟩ := h.whG (1 + s) (by omega) (by show 1 + s ≤ 256; omega)
  refine ⟨by rw [a, hsp]; rfl, by rw [b, ht], ?_⟩
  rw [c hsp, show 1 + s - 1 = s by omega]
  rfl
theorem Sp.new {d : Pl} {u : List Bool} {I : Nat → List UInt8} (h : Sp d L64 u I) {k : Nat} (n : Dn d 64 k) (s : Nat) (hs : s < 256) (h1 : ∀ t, t < s → gerrInd (slI I t) = 0 ∧ (gotInd (slI I t)).k ≠ 0) (h2 : gerrInd (slI I s) = 0 ∧ (gotInd (slI I s)).k = 0) (x : Ind) (hx : niOk x = true) :
    ∃ d', newP d L64 x = (d', ((s + 1 : Nat) : Int), 0) ∧ Dn d' 64 (k + 1) ∧ Sp d' L64 u (setI I s (putInd x)) := by
  obtain ⟨ht, hsp⟩ := Pl.off n.ends
  have e := h.newAt hsp s (.inl n.ends) hs h1 h2 x hx
  simp only [ht, hsp, Bool.false_eq_true, if_false] at e
  exact ⟨_, e, n.put _ _, h.putS s hs _⟩
/-- Is it taken by one of the two? -/
def twoT (p q : Nat) (x y : Ind) (t : Nat) : Prop := (t = p ∧ x.k ≠ 0) ∨ (t = q ∧ y.k ≠ 0)
def iX : Ind := ⟨1, 7, 0, 0, []⟩
theorem inodes_plain (p q : Nat) (hp : p < 256) (hq : q < 256) (hpq : p ≠ q) (x y : Ind) (hx : okInd x = true) (hy : okInd y = true) :
    ∃ d1 d2 d3 s, seiP (spD 64) L64 ((1 + p : Nat) : Int) x = (d1, 0) ∧ Dn d1 64 6 ∧ seiP d1 L64 ((1 + q : Nat) : Int) y = (d2, 0) ∧ Dn d2 64 7 ∧
      (whE d2 L64 ((1 + p : Nat) : Int) = 0 ∧ whD d2 L64 ((1 + p : Nat) : Int) = d2 ∧ gotInd (inPart d2 L64 ((1 + p : Nat) : Int)) = x ∧ gerrInd (inPart d2 L64 ((1 + p : Nat) : Int)) = 0) ∧
      (whE d2 L64 ((1 + q : Nat) : Int) = 0 ∧ whD d2 L64 ((1 + q : Nat) : Int) = d2 ∧ gotInd (inPart d2 L64 ((1 + q : Nat) : Int)) = y ∧ gerrInd (inPart d2 L64 ((1 + q : Nat) : Int)) = 0) ∧
      newP d2 L64 iX = (d3, ((s + 1 : Nat) : Int), 0) ∧ Dn d3 64 8 ∧
      (whE d3 L64 ((1 + s : Nat) : Int) = 0 ∧ whD d3 L64 ((1 + s : Nat) : Int) = d3 ∧ gotInd (inPart d3 L64 ((1 + s : Nat) : Int)) = iX ∧ gerrInd (inPart d3 L64 ((1 + s : Nat) : Int)) = 0) ∧
      s ≤ 2 ∧ (∀ t, t < s → twoT p q x y t) ∧ ¬ twoT p q x y s := by
  obtain ⟨gx1, gx2, gx3⟩ := okInd_got hx
  obtain ⟨gy1, gy2, gy3⟩ := okInd_got hy
  have hX : okInd iX = true := by decide
  obtain ⟨gX1, gX2, gX3⟩ := okInd_got hX
  obtain ⟨d1, e1, n1, s1⟩ := sp64.sei dn64 p hp x hx
  obtain ⟨d2, e2, n2, s2⟩ := s1.sei n1 q hq y hy
  have l1 := lenI_zeros.set p (putInd x) gx3
  have l2 := l1.set q (putInd y) gy3
  obtain ⟨I2, hI2⟩ : ∃ I2, I2 = setI (setI (fun _ => zeros 4096) p (putInd x)) q (putInd y) := ⟨_, rfl⟩
  have hsl : ∀ t, t < 256 → slI I2 t = if t = q then putInd y else if t = p then putInd x else zeros 64 := fun t ht => by
    rw [hI2, slI_set _ _ _ _ (l1 _) gy3]
    split
    · rfl
    · rw [slI_set _ _ _ _ (lenI_zeros (p / 64)) gx3]
      split
      · rfl
      · unfold slI
        rw [slot_zeros _ (by omega)]
  rw [← hI2] at s2 l2
  have hg : ∀ t, t < 256 → gerrInd (slI I2 t) = 0 ∧ ((gotInd (slI I2 t)).k ≠ 0 ↔ twoT p q x y t) := fun t ht => by
    rw [hsl t ht]
    unfold twoT
    by_cases e : t = q
    · rw [if_pos e, gy1, gy2]
      refine ⟨rfl, fun h => .inr ⟨e, h⟩, fun h => ?_⟩
      rcases h with ⟨h, _⟩ | ⟨_, h⟩
      · omega
      · exact h
    · rw [if_neg e]
      by_cases e2 : t = p
      · rw [if_pos e2, gx1, gx2]
        refine ⟨rfl, fun h => .inl ⟨e2, h⟩, fun h => ?_⟩
        rcases h with ⟨_, h⟩ | ⟨h, _⟩
        · exact h
        · exact absurd h e
      · rw [if_neg e2, got_zeros.1, got_zeros.2]
        refine ⟨rfl, fun h => absurd rfl h, fun h => ?_⟩
        rcases h with ⟨h, _⟩ | ⟨h, _⟩
        · exact absurd h e2
        · exact absurd h e
  have hs : ∃ s, s ≤ 2 ∧ (∀ t, t < s → twoT p q x y t) ∧ ¬ twoT p q x y s := by
    by_cases h0 : twoT p q x y 0
    · by_cases h1 : twoT p q x y 1
      · refine ⟨2, by omega, fun t ht => ?_, fun h2 => ?_⟩
        · rcases t with _ | _ | t
          · exact h0
          · exact h1
          · omega
        · unfold twoT at h0 h1 h2
          omega
      · exact ⟨1, by omega, fun t ht => by rw [show t = 0 by omega]; exact h0, h1⟩
    · exact ⟨0, by omega, fun t ht => by omega, h0⟩
  obtain ⟨s, hs2, hs3, hs4⟩ := hs
  obtain ⟨d3, e3, n3, s3⟩ := s2.new n2 s (by omega) (fun t ht => ⟨(hg t (by omega)).1, (hg t (by omega)).2.2 (hs3 t ht)⟩) ⟨(hg s (by omega)).1, by
    have := (hg s (by omega)).2
    by_cases e : (gotInd (slI I2 s)).k = 0
    · exact e
    · exact absurd (this.1 e) hs4⟩ iX (by decide)
  obtain ⟨a1, a2, a3⟩ := s2.get n2 p hp
  obtain ⟨b1, b2, b3⟩ := s2.get n2 q hq
  obtain ⟨c1, c2, c3⟩ := s3.get n3 s (by omega)
  refine ⟨d1, d2, d3, s, e1, n1, e2, n2, ⟨a1, a2, ?_, ?_⟩, ⟨b1, b2, ?_, ?_⟩, e3, n3, ⟨c1, c2, ?_, ?_⟩, hs2, hs3, hs4⟩
  · rw [a3, hsl p hp, if_neg hpq, if_pos rfl]; exact gx1
  · rw [a3, hsl p hp, if_neg hpq, if_pos rfl]; exact gx2
  · rw [b3, hsl q hq, if_pos rfl]; exact gy1
  · rw [b3, hsl q hq, if_pos rfl]; exact gy2
  · rw [c3, slI_set _ _ _ _ (l2 _) gX3, if_pos rfl]; exact gX1
  · rw [c3, slI_set _ _ _ _ (l2 _) gX3, if_pos rfl]; exact gX2
end Go.Proofs.Ytahlhdhljjpeoaa

/- ledgerstonelow's functions on extents and inodes. -/
namespace Go.Proofs.Ytahlhdhljjpeoaa
open Go.RowKit
set_option maxHeartbeats 1600000
set_option linter.unusedVariables false
set_option linter.unusedSimpArgs false

/-- The first k are the same. -/
def SameTo (l r : List Ext) (k : Nat) : Prop := l.take k = r.take k
theorem SameTo.succ {l r : List Ext} {k : Nat} (h : SameTo l r k) (hl : k < l.length) (hr : k < r.length) (he : xat l k = xat r k) : SameTo l r (k + 1) := by
  unfold SameTo at *
  rw [List.take_succ_eq_append_getElem hl, List.take_succ_eq_append_getElem hr, h]
  simp only [xat, List.getD_eq_getElem?_getD, List.getElem?_eq_getElem hl, List.getElem?_eq_getElem hr, Option.getD_some] at he
  rw [he]
theorem ext_ne {l r : List Ext} {k : Nat} (hl : k < l.length) (h : ¬ xat l k = xat r k) : decide (l = r) = false := by
  refine decide_eq_false ?_
  rintro rfl
  exact h rfl
theorem below_drewN2 {B : Nat} {a w : World} (h : Below B a w) (n : Nat) : Below B a (w.drewN n) := ⟨h.os, h.tape, h.output, h.size, h.block⟩
theorem SameExtents_any (w : World) (a b : Option Addr) (c d N M : Nat) (l r : List Ext) (hN : N = l.length) (hM : M = r.length) (hl : l.length ≤ 7000000000000) (hr1 : RdX w a l) (hr2 : RdX w b r) :
    Calls Try.prog 40 #[.slice a N c, .slice b M d] w fun e w' => e = .returned (.bool (decide (l = r))) ∧ Below w.heap.size w w' := by
  subst hN hM
  by_cases hlen : l.length = r.length
  · have hM : r.length ≤ 7000000000000 := by omega
    obtain ⟨n, hn⟩ : ∃ n, n = l.length := ⟨_, rfl⟩
    have HL := hid (show l.length = n from hn.symm)
    have HR := hid (show r.length = n by omega)
    rw [← hlen, ← hn]
    have hn2 : n ≤ 7000000000000 := by omega
    obtain ⟨D, hD⟩ : ∃ D, D = decide (l = r) := ⟨_, rfl⟩
    rw [← hD]
    have HD := hid hD
    clear hlen hM hn hl hD
    go_enter Try.func40, Try.ntmps40
    go_wp2
    go_loopw [5] (fun i wr => ∃ k : Nat, k ≤ n ∧ i = .int .i64 k ∧ SameTo l r k ∧ Below w.heap.size w wr) (fun i _ => n - (intOf i).toNat)
    case atStart => exact ⟨0, by omega, rfl, rfl, Below.refl _ _⟩
    case round =>
      obtain ⟨k, hk, rfl, hS, hbl⟩ := hrel
      by_cases hlt : k < n
      · have hkl : k < l.length := by rw [HL.out]; exact hlt
        have hkr : k < r.length := by rw [HR.out]; exact hlt
        obtain ⟨b1, o1, rfl, hc1⟩ := (hr1.below hbl).at_ (by intro e; rw [e] at hkl; simp at hkl)
        obtain ⟨b2, o2, rfl, hc2⟩ := (hr2.below hbl).at_ (by intro e; rw [e] at hkr; simp at hkr)
        obtain ⟨p0, p1, p2⟩ := hc1 k hkl
        obtain ⟨q0, q1, q2⟩ := hc2 k hkr
        have HKL := hid hkl; have HKR := hid hkr
        clear hc1 hc2 hkl hkr
        have HX := hid (show xat l k = xat r k ↔ (xat l k).at_ = (xat r k).at_ ∧ (xat l k).st = (xat r k).st ∧ (xat l k).ct = (xat r k).ct by rw [Ext.mk.injEq])
        obtain ⟨x, hx1⟩ : ∃ x, x = xat l k := ⟨_, rfl⟩
        obtain ⟨y, hy1⟩ : ∃ y, y = xat r k := ⟨_, rfl⟩
        rw [← hx1] at p0 p1 p2; rw [← hy1] at q0 q1 q2
        rw [← hx1, ← hy1] at HX
        have HX1 := hid hx1; have HY1 := hid hy1; clear hx1 hy1
        obtain ⟨x1, x2, x3⟩ := x
        obtain ⟨y1, y2, y3⟩ := y
        simp only at p0 p1 p2 q0 q1 q2
        have i0 : (0 : Int) ≤ (k : Int) := by omega
        have i1 : (k : Int) < (n : Int) := by omega
        have hfalse : ¬ (x1 = y1 ∧ x2 = y2 ∧ x3 = y3) → D = false := by
          intro h
          rw [HD.out]
          refine ext_ne HKL.out ?_
          rw [← HX1.out, ← HY1.out]
          intro h2
          rw [Ext.mk.injEq] at h2
          exact h h2
        have HF := hid hfalse; clear hfalse
        have HT := hid (fun h : x1 = y1 ∧ x2 = y2 ∧ x3 = y3 => hS.succ HKL.out HKR.out (by rw [← HX1.out, ← HY1.out, Ext.mk.injEq]; exact h))
        by_cases c1 : x1 = y1
        · subst c1
          by_cases c2 : x2 = y2
          · subst c2
            by_cases c3 : x3 = y3
            · subst c3
              go_wp2
              go_quiet (fail)
              go_wp2
              go_roundw
              case rel => exact ⟨k + 1, by omega, by go_num, HT.out (by simp), below_drewN2 hbl _⟩
              case measure => simp [intOf]; omega
            · have hd := hid (HF.out (fun h => c3 h.2.2))
              go_wp2
              go_quiet (fail)
              go_wp2
              go_ret
              exact ⟨by rw [hd.out]; rfl, below_drewN2 hbl _⟩
          · have hd := hid (HF.out (fun h => c2 h.2.1))
            go_wp2
            go_quiet (fail)
            go_wp2
            go_ret
            exact ⟨by rw [hd.out]; rfl, below_drewN2 hbl _⟩
        · have hd := hid (HF.out (fun h => c1 h.1))
          go_wp2
          go_quiet (fail)
          go_wp2
          go_ret
          exact ⟨by rw [hd.out]; rfl, below_drewN2 hbl _⟩
      · obtain rfl : k = n := by omega
        go_wp2
        go_ret
        refine ⟨?_, hbl⟩
        have e : l = r := by
          have := hS
          unfold SameTo at this
          rw [List.take_of_length_le (by rw [HL.out]; omega), List.take_of_length_le (by rw [HR.out]; omega)] at this
          exact this
        rw [HD.out, decide_eq_true e]
        rfl
  · have hd : decide (l = r) = false := decide_eq_false (by rintro rfl; exact hlen rfl)
    rw [hd]
    have hb : ((l.length : Int) == (r.length : Int)) = false := by rw [beq_eq_false_iff_ne]; omega
    clear hd
    go_enter Try.func40, Try.ntmps40
    go_wp2
    go_ret
    exact ⟨rfl, Below.refl _ _⟩
set_option maxRecDepth 100000 in
theorem SameInode_any (w : World) (m n : Ind) (a b : Option Addr) (c d : Nat) (hm : m.dir.length ≤ 7000000000000) (hr1 : RdX w a m.dir) (hr2 : RdX w b n.dir) :
    Calls Try.prog 35 #[m.val a c, n.val b d] w fun e w' => e = .returned (.bool (decide (m = n))) ∧ Below w.heap.size w w' := by
  obtain ⟨k, ln, sz, nd, l⟩ := m
  obtain ⟨k', ln', sz', nd', l'⟩ := n
  simp only [Ind.val, indCells] at *
  have hb2 : Below w.heap.size w ((w.alloc (.cells #[.int .u8 (k : Int), .int .i64 ln, .int .i64 sz, .slice a l.length c, .int .i64 nd] 54)).alloc (.cells #[.int .u8 (k' : Int), .int .i64 ln', .int .i64 sz', .slice b l'.length d, .int .i64 nd'] 54)) := below_two (Below.refl _ w) (Nat.le_refl _) _ _
  have S := fun W h1 h2 => SameExtents_any W a b c d _ _ l l' rfl rfl hm h1 h2
  have hx1 := hid (RdX.below hr1 hb2)
  have hx2 := hid (RdX.below hr2 hb2)
  obtain ⟨D, hD⟩ : ∃ D, D = decide ((⟨k, ln, sz, nd, l⟩ : Ind) = ⟨k', ln', sz', nd', l'⟩) := ⟨_, rfl⟩
  rw [← hD]
  have hno : ¬ (k = k' ∧ ln = ln' ∧ sz = sz' ∧ nd = nd') → D = false := by
    intro h
    rw [hD]
    refine decide_eq_false ?_
    intro h2
    rw [Ind.mk.injEq] at h2
    exact h ⟨h2.1, h2.2.1, h2.2.2.1, h2.2.2.2.1⟩
  have HN := hid hno; clear hno
  have hyes : k = k' ∧ ln = ln' ∧ sz = sz' ∧ nd = nd' → D = decide (l = l') := by
    rintro ⟨rfl, rfl, rfl, rfl⟩
    rw [hD]
    simp
  have HY := hid hyes; clear hyes hD hr1 hr2
  by_cases c1 : k = k'
  · subst c1
    by_cases c2 : ln = ln'
    · subst c2
      by_cases c3 : sz = sz'
      · subst c3
        by_cases c4 : nd = nd'
        · subst c4
          have HE := hid (HY.out ⟨rfl, rfl, rfl, rfl⟩)
          go_enter Try.func35, Try.ntmps35
          go_wp2_with fail
          refine (S _ hx1.out hx2.out).mono ?_
          rw [← HE.out]
          rintro e w1 ⟨rfl, b1⟩
          go_wp2
          go_ret
          exact ⟨rfl, hb2.trans (b1.mono hb2.size)⟩
        · have HF := hid (HN.out (fun h => c4 h.2.2.2))
          go_enter Try.func35, Try.ntmps35
          go_wp2
          go_ret
          exact ⟨by rw [HF.out]; rfl, hb2⟩
      · have HF := hid (HN.out (fun h => c3 h.2.2.1))
        go_enter Try.func35, Try.ntmps35
        go_wp2
        go_ret
        exact ⟨by rw [HF.out]; rfl, hb2⟩
    · have HF := hid (HN.out (fun h => c2 h.2.1))
      go_enter Try.func35, Try.ntmps35
      go_wp2
      go_ret
      exact ⟨by rw [HF.out]; rfl, hb2⟩
  · have HF := hid (HN.out (fun h => c1 h.1))
    have hb : ((k : Int) == (k' : Int)) = false := by rw [beq_eq_false_iff_ne]; omega
    go_enter Try.func35, Try.ntmps35
    go_wp2
    go_ret
    exact ⟨by rw [HF.out]; rfl, hb2⟩
end Go.Proofs.Ytahlhdhljjpeoaa
