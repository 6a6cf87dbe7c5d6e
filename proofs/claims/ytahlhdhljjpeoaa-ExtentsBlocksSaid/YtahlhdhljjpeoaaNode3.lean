/- GetNode of both sides. -/
import Derived.Test.YtahlhdhljjpeoaaExt4
namespace Go.Proofs.Ytahlhdhljjpeoaa
open Go.RowKit
set_option maxHeartbeats 1600000
set_option linter.unusedVariables false
set_option linter.unusedSimpArgs false

theorem xat_xsAtB (l : List UInt8) (p : Int) (n k : Nat) (hk : k < n) : xat (xsAtB l p n) k = xAtB l (p + 6 * (k : Int)) := by
  simp [xat, xsAtB, List.getD_eq_getElem?_getD, List.getElem?_map, List.getElem?_range hk]
theorem okX_xsAtB (l : List UInt8) (p : Int) (n : Nat) : okX (xsAtB l p n) := by
  intro k hk
  rw [xsAtB_length] at hk
  rw [xat_xsAtB _ _ _ _ hk]
  have h1 := numV2_lt l (p + 6 * (k : Int)); have h2 := numV2_lt l (p + 6 * (k : Int) + 2); have h3 := numV2_lt l (p + 6 * (k : Int) + 4)
  simp only [Ext.ok, xAtB]
  omega
/-- The extents that a block says it has. -/
def nodeX (b : List UInt8) : List Ext := xsAtB b 8 (numV b 0 2)
def isNode (b : List UInt8) : Bool := okL (nodeX b) && (nodeB (nodeX b) == b)
def gotL (b : List UInt8) : List Ext := if isNode b then nodeX b else []
def gerrL (b : List UInt8) : Int := if isNode b then 0 else 30
theorem not_node_len {b : List UInt8} (h : b.length ≠ 4096) : isNode b = false := by
  unfold isNode
  by_cases ho : okL (nodeX b) = true
  · have h2 : (nodeX b).length ≤ 250 := by simp [okL] at ho; exact ho.1
    have := nodeB_length _ h2
    rw [ho, Bool.true_and, beq_eq_false_iff_ne]
    rintro e; rw [e] at this; exact h this
  · simp [eq_false_of_ne_true ho]
theorem not_node_many {b : List UInt8} (h : 250 < numV b 0 2) : isNode b = false := by
  have : okL (nodeX b) = false := by simp [okL, nodeX, xsAtB_length]; omega
  simp [isNode, this]
theorem node_no {b : List UInt8} (h : isNode b = false) : gotL b = [] ∧ gerrL b = 30 := by simp [gotL, gerrL, h]
theorem node_yes {b : List UInt8} (h : isNode b = true) : gotL b = nodeX b ∧ gerrL b = 0 := by simp [gotL, gerrL, h]
set_option maxRecDepth 100000 in
theorem GetNode_any (w : World) (a : Option Addr) (c N : Nat) (l : List UInt8) (hN : N = l.length) (hl : l.length ≤ 200000000000000) (hr : RdB w a l) :
    Calls Try.prog 78 #[.slice a N c] w fun e w' => ∃ A c', e = .returned (.tuple #[.slice A (gotL l).length c', .int .i64 (gerrL l)]) ∧ OwnX w.heap.size w' A c' (gotL l) ∧ Below w.heap.size w w' := by
  subst hN
  have hx := numV2_lt l 0
  have hnx := hid (show nodeX l = xsAtB l 8 (numV l 0 2) from rfl)
  by_cases h2 : l.length < 2
  · have hg := hid (node_no (not_node_len (b := l) (by omega)))
    have hk : numOk l 0 2 = false := by simp [numOk]; omega
    rw [hg.out.1, hg.out.2]
    go_enter Try.func78, Try.ntmps78
    go_wp2_with fail
    refine (U16_any _ _ _ _ l rfl 0 hl hr (by decide)).mono ?_
    rw [hk]
    rintro e w' ⟨rfl, rfl⟩
    go_wp2
    go_ret2
    exact ⟨none, 0, rfl, OwnX.nil _ _, Below.refl _ _⟩
  · have hk : numOk l 0 2 = true := by simp [numOk]; omega
    by_cases h250 : 250 < numV l 0 2
    · have hg := hid (node_no (not_node_many (b := l) h250))
      rw [hg.out.1, hg.out.2]
      have hU := fun w (hr : RdB w a l) => U16_any w a c _ l rfl 0 hl hr (by decide)
      rw [hk] at hU
      clear hk hnx hg
      generalize numV l 0 2 = n at *
      go_enter Try.func78, Try.ntmps78
      go_wp2_with fail
      refine (hU _ hr).mono ?_
      rintro e w' ⟨rfl, rfl⟩
      go_wp2
      go_ret2
      exact ⟨none, 0, rfl, OwnX.nil _ _, Below.refl _ _⟩
    · have hxl := xsAtB_length l 8 (numV l 0 2)
      have hxo := okX_xsAtB l 8 (numV l 0 2)
      have hU := fun w (hr : RdB w a l) => U16_any w a c _ l rfl 0 hl hr (by decide)
      have hT := fun w (hr : RdB w a l) => taken_any w a c _ l rfl hl hr 8 (by decide) (numV l 0 2) (by omega)
      rw [hk] at hU
      have hnode : isNode l = (okL (nodeX l) && (nodeB (nodeX l) == l)) := rfl
      rw [hnx.out] at hnode
      have hgot : isNode l = true → gotL l = xsAtB l 8 (numV l 0 2) ∧ gerrL l = 0 := fun h => node_yes h
      clear hk hnx
      generalize xsAtB l 8 (numV l 0 2) = X at *
      generalize numV l 0 2 = n at *
      have HX := hid hxl; have HO := hid hxo; have HND := hid hnode; have HG := hid hgot
      clear hxl hxo hnode hgot
      go_enter Try.func78, Try.ntmps78
      go_wp2_with fail
      refine (hU _ hr).mono ?_
      rintro e w' ⟨rfl, rfl⟩
      go_wp2_with fail
      refine (hT _ hr).mono ?_
      rintro e w1 ⟨A1, c1, rfl, g1, b1⟩
      go_wp2_with fail
      refine (PutNode_any _ _ _ _ X HX.out.symm (by have := HX.out; omega) g1.rd HO.out).mono ?_
      by_cases hok : okL X = true
      · have hp := hid (show putL X = nodeB X by rw [putL, if_pos hok])
        rw [show errL X = 0 by rw [errL, if_pos hok], hp.out]
        rintro e w2 ⟨A2, c2, rfl, g2, b2⟩
        have bw2 := b1.trans (b2.mono b1.size)
        go_wp2_with fail
        refine (Equal_any _ _ _ _ _ _ _ (nodeB X) l rfl rfl g2.rd (hr.below bw2)).mono ?_
        by_cases heq : (nodeB X == l) = true
        · rw [heq]
          rintro e w' ⟨rfl, rfl⟩
          have hi := HG.out (by rw [HND.out, hok, heq]; rfl)
          have HI := hid hi; clear hi
          go_wp2
          go_ret2
          refine ⟨A1, c1, ?_, ?_, bw2⟩
          · rw [HI.out.1, HI.out.2, HX.out]; rfl
          · rw [HI.out.1]; exact g1.below b2
        · rw [eq_false_of_ne_true heq]
          rintro e w' ⟨rfl, rfl⟩
          have HI := hid (node_no (b := l) (by rw [HND.out, eq_false_of_ne_true heq, Bool.and_false]))
          go_wp2
          go_ret2
          refine ⟨none, 0, ?_, ?_, bw2⟩
          · rw [HI.out.1, HI.out.2]; rfl
          · rw [HI.out.1]; exact OwnX.nil _ _
      · have hok := eq_false_of_ne_true hok
        rw [show errL X = 2 by rw [errL, hok]; rfl]
        rintro e w2 ⟨A2, c2, rfl, g2, b2⟩
        have bw2 := b1.trans (b2.mono b1.size)
        have HI := hid (node_no (b := l) (by rw [HND.out, hok, Bool.false_and]))
        go_wp2
        go_ret2
        refine ⟨none, 0, ?_, ?_, bw2⟩
        · rw [HI.out.1, HI.out.2]; rfl
        · rw [HI.out.1]; exact OwnX.nil _ _
set_option maxRecDepth 100000 in
theorem refGetNode_any (w : World) (a : Option Addr) (c N : Nat) (l : List UInt8) (hN : N = l.length) (hl : l.length ≤ 200000000000000) (hr : RdB w a l) :
    Calls Try.prog 82 #[.slice a N c] w fun e w' => ∃ A c', e = .returned (.tuple #[.slice A (gotL l).length c', .int .i64 (gerrL l)]) ∧ OwnX w.heap.size w' A c' (gotL l) ∧ Below w.heap.size w w' := by
  subst hN
  have hx := numV2_lt l 0
  have hnx := hid (show nodeX l = xsAtB l 8 (numV l 0 2) from rfl)
  by_cases h2 : l.length = 4096
  · have hU := fun w (hr : RdB w a l) => rnumber2_any w a c _ l rfl 0 hl hr (by decide)
    by_cases h250 : 250 < numV l 0 2
    · have hg := hid (node_no (not_node_many (b := l) h250))
      rw [hg.out.1, hg.out.2]
      clear hnx hg
      generalize numV l 0 2 = n at *
      have hU' : ∀ w, RdB w a l → Calls Try.prog 109 #[.slice a 4096 c, .int .i64 0, .int .i64 2] w fun e w' => e = .returned (.int .i64 (n : Nat)) ∧ w = w' := by rw [← h2]; exact hU
      rw [h2]
      clear hU h2
      go_enter Try.func82, Try.ntmps82
      go_wp2_with fail
      refine (hU' _ hr).mono ?_
      rintro e w' ⟨rfl, rfl⟩
      go_wp2
      go_ret2
      exact ⟨none, 0, rfl, OwnX.nil _ _, Below.refl _ _⟩
    · have hxl := xsAtB_length l 8 (numV l 0 2)
      have hxo := okX_xsAtB l 8 (numV l 0 2)
      have hT := fun w (hr : RdB w a l) => read_any w a c _ l rfl hl hr 8 (by decide) (numV l 0 2) (by omega)
      have hnode : isNode l = (okL (nodeX l) && (nodeB (nodeX l) == l)) := rfl
      rw [hnx.out] at hnode
      have hgot : isNode l = true → gotL l = xsAtB l 8 (numV l 0 2) ∧ gerrL l = 0 := fun h => node_yes h
      clear hnx
      generalize xsAtB l 8 (numV l 0 2) = X at *
      generalize numV l 0 2 = n at *
      have HX := hid hxl; have HO := hid hxo; have HND := hid hnode; have HG := hid hgot
      have H4 := hid h2
      have hU' : ∀ w, RdB w a l → Calls Try.prog 109 #[.slice a 4096 c, .int .i64 0, .int .i64 2] w fun e w' => e = .returned (.int .i64 (n : Nat)) ∧ w = w' := by rw [← h2]; exact hU
      have hT' : ∀ w, RdB w a l → Calls Try.prog 110 #[.slice a 4096 c, .int .i64 8, .int .i64 (n : Int)] w fun e w' => ∃ A c', e = .returned (.slice A n c') ∧ OwnX w.heap.size w' A c' X ∧ Below w.heap.size w w' := by rw [← h2]; exact hT
      rw [h2]
      clear hxl hxo hnode hgot h2 hU hT
      go_enter Try.func82, Try.ntmps82
      go_wp2_with fail
      refine (hU' _ hr).mono ?_
      rintro e w' ⟨rfl, rfl⟩
      go_wp2_with fail
      refine (hU' _ hr).mono ?_
      rintro e w' ⟨rfl, rfl⟩
      go_wp2_with fail
      refine (hT' _ hr).mono ?_
      rintro e w1 ⟨A1, c1, rfl, g1, b1⟩
      go_wp2_with fail
      refine (refPutNode_any _ _ _ _ X HX.out.symm (by have := HX.out; omega) g1.rd HO.out).mono ?_
      by_cases hok : okL X = true
      · have hp := hid (show putL X = nodeB X by rw [putL, if_pos hok])
        rw [show errL X = 0 by rw [errL, if_pos hok], hp.out]
        rintro e w2 ⟨A2, c2, rfl, g2, b2⟩
        have bw2 := b1.trans (b2.mono b1.size)
        go_wp2_with fail
        refine (SameBytes_any _ _ _ _ _ _ _ (nodeB X) l rfl H4.out.symm g2.rd (hr.below bw2)).mono ?_
        by_cases heq : (nodeB X == l) = true
        · rw [heq]
          rintro e w' ⟨rfl, rfl⟩
          have hi := HG.out (by rw [HND.out, hok, heq]; rfl)
          have HI := hid hi; clear hi
          go_wp2
          go_ret2
          refine ⟨A1, c1, ?_, ?_, bw2⟩
          · rw [HI.out.1, HI.out.2, HX.out]; rfl
          · rw [HI.out.1]; exact g1.below b2
        · rw [eq_false_of_ne_true heq]
          rintro e w' ⟨rfl, rfl⟩
          have HI := hid (node_no (b := l) (by rw [HND.out, eq_false_of_ne_true heq, Bool.and_false]))
          go_wp2
          go_ret2
          refine ⟨none, 0, ?_, ?_, bw2⟩
          · rw [HI.out.1, HI.out.2]; rfl
          · rw [HI.out.1]; exact OwnX.nil _ _
      · have hok := eq_false_of_ne_true hok
        rw [show errL X = 2 by rw [errL, hok]; rfl]
        rintro e w2 ⟨A2, c2, rfl, g2, b2⟩
        have bw2 := b1.trans (b2.mono b1.size)
        have HI := hid (node_no (b := l) (by rw [HND.out, hok, Bool.false_and]))
        go_wp2
        go_ret2
        refine ⟨none, 0, ?_, ?_, bw2⟩
        · rw [HI.out.1, HI.out.2]; rfl
        · rw [HI.out.1]; exact OwnX.nil _ _
  · have hg := hid (node_no (not_node_len (b := l) h2))
    rw [hg.out.1, hg.out.2]
    have hb : ((l.length : Int) == 4096) = false := by rw [beq_eq_false_iff_ne]; omega
    have h2' : ¬ (l.length : Int) = 4096 := by omega
    clear hnx hg h2 hx
    go_enter Try.func82, Try.ntmps82
    go_wp2
    go_ret2
    exact ⟨none, 0, rfl, OwnX.nil _ _, Below.refl _ _⟩
end Go.Proofs.Ytahlhdhljjpeoaa
