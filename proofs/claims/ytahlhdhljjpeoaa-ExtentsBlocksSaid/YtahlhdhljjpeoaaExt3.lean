/- Extents as bytes: of both sides. -/
import Derived.Test.YtahlhdhljjpeoaaExt2
import Derived.Test.YtahlhdhljjpeoaaSup2
namespace Go.Proofs.Ytahlhdhljjpeoaa
open Go.RowKit
set_option maxHeartbeats 1600000
set_option linter.unusedVariables false
set_option linter.unusedSimpArgs false

/-- An extent's numbers. -/
def xNum (x : Ext) : Nat → Nat
  | 0 => x.at_.toNat
  | 1 => x.st.toNat
  | _ => x.ct.toNat
/-- Its bytes, so far. -/
def xTo (x : Ext) : Nat → List UInt8
  | 0 => []
  | j + 1 => xTo x j ++ be (xNum x j) 2
theorem xTo_length (x : Ext) : ∀ j, (xTo x j).length = 2 * j
  | 0 => rfl
  | j + 1 => by simp only [xTo, List.length_append, xTo_length x j, be_length]; omega
/-- Those of a list, so far. -/
def xsTo (l : List Ext) : Nat → List UInt8
  | 0 => []
  | k + 1 => xsTo l k ++ xTo (xat l k) 3
theorem xsTo_length (l : List Ext) : ∀ k, (xsTo l k).length = 6 * k
  | 0 => rfl
  | k + 1 => by simp only [xsTo, List.length_append, xsTo_length l k, xTo_length]; omega
/-- What a right list's numbers are. -/
theorem right_nums (l : List Ext) : ∀ n, badTo l n = false → ∀ k, k < n → (0 ≤ (xat l k).at_ ∧ (xat l k).at_ ≤ 512) ∧ (1 ≤ (xat l k).st ∧ (xat l k).st ≤ 512) ∧ (1 ≤ (xat l k).ct ∧ (xat l k).ct ≤ 512)
  | 0, _, k, hk => by omega
  | n + 1, h, k, hk => by
    rw [badTo_succ, Bool.or_eq_false_iff] at h
    by_cases e : k < n
    · exact right_nums l n h.1 k e
    · obtain rfl : k = n := by omega
      have h1 := endTo_nonneg l k h.1
      have h2 := h.2
      simp [Ext.bad] at h2
      omega
theorem xNum_lt {x : Ext} (h : (0 ≤ x.at_ ∧ x.at_ ≤ 512) ∧ (1 ≤ x.st ∧ x.st ≤ 512) ∧ (1 ≤ x.ct ∧ x.ct ≤ 512)) (j : Nat) : xNum x j ≤ 512 := by
  unfold xNum; split <;> omega
theorem x_nums {x : Ext} (h : (0 ≤ x.at_ ∧ x.at_ ≤ 512) ∧ (1 ≤ x.st ∧ x.st ≤ 512) ∧ (1 ≤ x.ct ∧ x.ct ≤ 512)) : x.at_ = (xNum x 0 : Int) ∧ x.st = (xNum x 1 : Int) ∧ x.ct = (xNum x 2 : Int) := by
  have e0 : xNum x 0 = x.at_.toNat := rfl
  have e1 : xNum x 1 = x.st.toNat := rfl
  have e2 : xNum x 2 = x.ct.toNat := rfl
  omega
set_option maxRecDepth 100000 in
theorem extents_any (w : World) (a : Option Addr) (ca N : Nat) (l0 : List UInt8) (hN : l0.length = N) (hN2 : N ≤ 1000) (base : Nat) (hbase : base ≤ w.heap.size) (hr0 : OwnB base w a ca l0) (b : Option Addr) (c M : Nat) (l : List Ext) (hM : M = l.length) (hl : l.length ≤ 1000) (hr : RdX w b l) (hok : badTo l l.length = false) :
    Calls Try.prog 85 #[.slice a N ca, .slice b M c] w fun e w' => ∃ A c', e = .returned (.slice A (N + 6 * M) c') ∧ OwnB base w' A c' (l0 ++ xsTo l M) ∧ Below w.heap.size w w' := by
  subst hM
  have HN := hid hN; clear hN
  go_enter Try.func85, Try.ntmps85
  go_wp2_with fail
  go_loopw [0, 11] (fun x i wr => ∃ (k : Nat) (A : Option Addr) (c' : Nat), k ≤ l.length ∧ i = .int .i64 k ∧ x = .slice A (N + 6 * k) c' ∧ OwnB base wr A c' (l0 ++ xsTo l k) ∧ Below w.heap.size w wr) (fun _ i _ => l.length - (intOf i).toNat)
  case atStart => exact ⟨0, a, ca, by omega, rfl, rfl, by simpa [xsTo] using hr0, Below.refl _ _⟩
  case round =>
    obtain ⟨k, A, c', hk, rfl, rfl, hR, hbl⟩ := hrel
    by_cases hlt : k < l.length
    · obtain ⟨ba, off, rfl, hcs⟩ := (hr.below hbl).at_ (by intro e; simp [e] at hlt)
      obtain ⟨k0, k1, k2⟩ := hcs k hlt
      clear hcs
      have hxs := right_nums l l.length hok k hlt
      have hxn := hid (xNum_lt hxs)
      obtain ⟨e0, e1, e2⟩ := x_nums hxs
      have hS := hid (show xsTo l (k + 1) = xsTo l k ++ xTo (xat l k) 3 from rfl)
      rw [e0] at k0; rw [e1] at k1; rw [e2] at k2
      obtain ⟨x, hx⟩ : ∃ x, x = xat l k := ⟨_, rfl⟩
      rw [← hx] at k0 k1 k2 hxn hS
      have HL := hid (show (l0 ++ xsTo l k).length = N + 6 * k by rw [List.length_append, HN.out, xsTo_length])
      obtain ⟨L, hL⟩ : ∃ L, L = l0 ++ xsTo l k := ⟨_, rfl⟩
      rw [← hL] at hR HL
      have hL := hid hL
      clear hx hxs e0 e1 e2
      obtain ⟨wo, rfl⟩ : ∃ wo : World, wo = wr := ⟨_, rfl⟩
      go_wp2_with fail
      go_loopw [0, 23] (fun z i wr => ∃ (j : Nat) (A : Option Addr) (c' : Nat), j ≤ 3 ∧ i = .int .i64 j ∧ z = .slice A (N + 6 * k + 2 * j) c' ∧ OwnB base wr A c' (L ++ xTo x j) ∧ RdV wr (some ⟨wo.heap.size + 1, 0, none⟩) [.int .i64 (xNum x 0 : Int), .int .i64 (xNum x 1 : Int), .int .i64 (xNum x 2 : Int)] ∧ Below w.heap.size w wr) (fun _ i _ => 3 - (intOf i).toNat)
      case atStart =>
        refine ⟨0, A, c', by omega, rfl, rfl, ?_, ?_, ?_⟩
        · simp only [xTo, List.append_nil]
          exact hR.below (below_two (Below.refl _ wo) (Nat.le_refl _) _ _)
        · have := RdV.new (wo.alloc (.cells #[.int .i64 (xNum x 0 : Int), .int .i64 (xNum x 1 : Int), .int .i64 (xNum x 2 : Int)] 24)) #[.int .i64 (xNum x 0 : Int), .int .i64 (xNum x 1 : Int), .int .i64 (xNum x 2 : Int)] 3
          simpa using this
        · exact (hbl.alloc hbl.size _).alloc (by have := hbl.size; simp; omega) _
      case round =>
        obtain ⟨j, A2, c2, hj, rfl, rfl, hR2, hV2, hbl2⟩ := hrel
        by_cases hj3 : j < 3
        · have hc : wr.cell? ⟨wo.heap.size + 1, j, none⟩ = some (.int .i64 (xNum x j : Int)) := by
            obtain ⟨b, off, hb, hcs⟩ := hV2 (by simp)
            simp only [Option.some.injEq, Addr.mk.injEq, and_true] at hb
            obtain ⟨rfl, rfl⟩ := hb
            have := hcs j (.int .i64 (xNum x j : Int)) (by rcases j with _ | _ | _ | j <;> first | rfl | omega)
            simpa using this
          have hs := hxn.out j
          go_wp2_with fail
          refine (Add16_any _ _ _ _ (L ++ xTo x j) (by rw [List.length_append, HL.out, xTo_length]) (xNum x j) _ rfl (by rw [List.length_append, HL.out, xTo_length]; omega) hR2.rd (by omega)).mono ?_
          rintro e w2 ⟨A3, c3, rfl, h3, b3⟩
          go_wp2
          go_roundw
          case rel => exact ⟨j + 1, A3, c3, by omega, by go_num, by simp; omega, by rw [show xTo x (j + 1) = xTo x j ++ be (xNum x j) 2 from rfl, ← List.append_assoc]; exact h3.mono (by have := hbl2.size; omega), hV2.below b3, hbl2.trans (b3.mono hbl2.size)⟩
          case measure => simp [intOf]; omega
        · obtain rfl : j = 3 := by omega
          go_wp2
          go_roundw
          case rel => exact ⟨k + 1, A2, c2, by omega, by go_num, by simp; omega, by rw [hS.out, ← List.append_assoc, ← hL.out]; exact hR2, hbl2⟩
          case measure => simp [intOf]; omega
    · obtain rfl : k = l.length := by omega
      go_wp2
      go_ret
      exact ⟨A, c', rfl, hR, hbl⟩
theorem radd2_any (w : World) (a : Option Addr) (c N : Nat) (l : List UInt8) (v : Nat) (hN : l.length = N) (hl : N ≤ 100000) (hr : RdB w a l) (hv : v ≤ 512) :
    Calls Try.prog 106 #[.slice a N c, .int .i64 (v : Int), .int .i64 2] w fun e w' =>
      ∃ A c', e = .returned (.slice A (N + 2) c') ∧ OwnB w.heap.size w' A c' (l ++ be v 2) ∧ Below w.heap.size w w' :=
  radd_any w a c N l hN.symm v 2 _ _ rfl rfl (by omega) hr (by decide) (by omega)
theorem keep3 {v W : World} {p q r : Addr} {a b c : Value} (h : v.cell? p = some a ∧ v.cell? q = some b ∧ v.cell? r = some c) (bl : Below v.heap.size v W) :
    W.cell? p = some a ∧ W.cell? q = some b ∧ W.cell? r = some c := ⟨cell_below bl h.1, cell_below bl h.2.1, cell_below bl h.2.2⟩
theorem below_drew' {v W : World} (h : Below v.drew.heap.size v.drew W) : Below v.heap.size v W := (below_drew v).trans h
set_option maxRecDepth 100000 in
theorem refextents_any (w : World) (a : Option Addr) (ca N : Nat) (l0 : List UInt8) (hN : l0.length = N) (hN2 : N ≤ 1000) (base : Nat) (hbase : base ≤ w.heap.size) (hr0 : OwnB base w a ca l0) (b : Option Addr) (c M : Nat) (l : List Ext) (hM : M = l.length) (hl : l.length ≤ 1000) (hr : RdX w b l) (hok : badTo l l.length = false) :
    Calls Try.prog 107 #[.slice a N ca, .slice b M c] w fun e w' => ∃ A c', e = .returned (.slice A (N + 6 * M) c') ∧ OwnB base w' A c' (l0 ++ xsTo l M) ∧ Below w.heap.size w w' := by
  subst hM
  have HN := hid hN; clear hN
  go_enter Try.func107, Try.ntmps107
  go_wp2_with fail
  go_loopw [0, 5] (fun x i wr => ∃ (k : Nat) (A : Option Addr) (c' : Nat), k ≤ l.length ∧ i = .int .i64 k ∧ x = .slice A (N + 6 * k) c' ∧ OwnB base wr A c' (l0 ++ xsTo l k) ∧ Below w.heap.size w wr) (fun _ i _ => l.length - (intOf i).toNat)
  case atStart => exact ⟨0, a, ca, by omega, rfl, rfl, by simpa [xsTo] using hr0, Below.refl _ _⟩
  case round =>
    obtain ⟨k, A, c', hk, rfl, rfl, hR, hbl⟩ := hrel
    by_cases hlt : k < l.length
    · obtain ⟨ba, off, rfl, hcs⟩ := (hr.below hbl).at_ (by intro e; simp [e] at hlt)
      have sv := hcs k hlt
      clear hcs
      have hxs := right_nums l l.length hok k hlt
      have hxn := xNum_lt hxs
      obtain ⟨e0, e1, e2⟩ := x_nums hxs
      have hS := hid (show xsTo l (k + 1) = xsTo l k ++ (([] ++ be (xNum (xat l k) 0) 2) ++ be (xNum (xat l k) 1) 2 ++ be (xNum (xat l k) 2) 2) from rfl)
      rw [e0, e1, e2] at sv
      have q0 := hid (hxn 0); have q1 := hid (hxn 1); have q2 := hid (hxn 2)
      obtain ⟨n0, h0⟩ : ∃ n, n = xNum (xat l k) 0 := ⟨_, rfl⟩
      obtain ⟨n1, h1⟩ : ∃ n, n = xNum (xat l k) 1 := ⟨_, rfl⟩
      obtain ⟨n2, h2⟩ : ∃ n, n = xNum (xat l k) 2 := ⟨_, rfl⟩
      rw [← h0] at q0 sv hS; rw [← h1] at q1 sv hS; rw [← h2] at q2 sv hS
      have L0 : (l0 ++ xsTo l k).length = N + 6 * k := by rw [List.length_append, HN.out, xsTo_length]
      have L1 : (l0 ++ xsTo l k ++ be n0 2).length = N + 6 * k + 2 := by rw [List.length_append, L0, be_length]
      have L2 : (l0 ++ xsTo l k ++ be n0 2 ++ be n1 2).length = N + 6 * k + 2 + 2 := by rw [List.length_append, L1, be_length]
      have L0 := hid L0; have L1 := hid L1; have L2 := hid L2
      clear h0 h1 h2 hxs e0 e1 e2 hxn
      obtain ⟨v, hv⟩ : ∃ v, v = wr := ⟨_, rfl⟩
      subst hv
      have hRd : RdB v.drew A (l0 ++ xsTo l k) := hR.rd
      have hbv : base ≤ v.heap.size := by have := hbl.size; omega
      go_wp2_with fail
      go_region_held3 (fun W => W.cell? ⟨ba, off + k * 3, none⟩ = some (.int .i64 (n0 : Int)) ∧ W.cell? ⟨ba, off + k * 3 + 1, none⟩ = some (.int .i64 (n1 : Int)) ∧ W.cell? ⟨ba, off + k * 3 + 2, none⟩ = some (.int .i64 (n2 : Int)))
        (first | exact sv | exact s1 | exact s2 | exact s3)
        (first
        | (go_at_call_of 106 (n0); refine (radd2_any v.drew _ _ _ (l0 ++ xsTo l k) n0 L0.out (by omega) hRd q0.out).mono ?_; rintro e w1 ⟨A1, c1, rfl, g1, b1⟩; have bb1 := below_drew' b1; have s1 := keep3 sv bb1)
        | (go_at_call_of 106 (n1); refine (radd2_any _ _ _ _ (l0 ++ xsTo l k ++ be n0 2) n1 L1.out (by omega) g1.rd q1.out).mono ?_; rintro e w2 ⟨A2, c2, rfl, g2, b2⟩; have bb2 := bb1.trans (b2.mono bb1.size); have s2 := keep3 sv bb2)
        | (go_at_call_of 106 (n2); refine (radd2_any _ _ _ _ (l0 ++ xsTo l k ++ be n0 2 ++ be n1 2) n2 L2.out (by omega) g2.rd q2.out).mono ?_; rintro e w3 ⟨A3, c3, rfl, g3, b3⟩; have bb3 := bb2.trans (b3.mono bb2.size); have s3 := keep3 sv bb3))
      go_wp2
      go_roundw
      case rel => exact ⟨k + 1, A3, c3, by omega, by go_num, by simp; omega, by rw [hS.out]; simpa [List.append_assoc] using g3.mono (show base ≤ w2.heap.size by have := bb2.size; omega), hbl.trans (bb3.mono hbl.size)⟩
      case measure => simp [intOf]; omega
    · obtain rfl : k = l.length := by omega
      go_wp2
      go_ret
      exact ⟨A, c', rfl, hR, hbl⟩
end Go.Proofs.Ytahlhdhljjpeoaa
