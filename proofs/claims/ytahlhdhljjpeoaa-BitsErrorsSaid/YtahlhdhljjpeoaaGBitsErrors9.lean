/- Texts joined: Ext3, Node, Node2, Sup3, Ext4. -/
import Derived.Test.YtahlhdhljjpeoaaGBitsErrors8
/- Extents as bytes: of both sides. -/
namespace Go.Proofs.Ytahlhdhljjpeoaa
open Go.RowKit
set_option maxHeartbeats 1600000
set_option linter.unusedVariables false
set_option linter.unusedSimpArgs false

/-- An extent's numbers. -/
def xNum (x : Ext) : Nat → Nat
  | 0 => x.at_.toNat
  | 1 => x.st.toNat
  | _ => x.ct.toNat
/-- Its bytes, so far. -/
def xTo (x : Ext) : Nat → List UInt8
  | 0 => []
  | j + 1 => xTo x j ++ be (xNum x j) 2
theorem xTo_length (x : Ext) : ∀ j, (xTo x j).length = 2 * j
  | 0 => rfl
  | j + 1 => by simp only [xTo, List.length_append, xTo_length x j, be_length]; omega
/-- Those of a list, so far. -/
def xsTo (l : List Ext) : Nat → List UInt8
  | 0 => []
  | k + 1 => xsTo l k ++ xTo (xat l k) 3
theorem xsTo_length (l : List Ext) : ∀ k, (xsTo l k).length = 6 * k
  | 0 => rfl
  | k + 1 => by simp only [xsTo, List.length_append, xsTo_length l k, xTo_length]; omega
/-- What a right list's numbers are. -/
theorem right_nums (l : List Ext) : ∀ n, badTo l n = false → ∀ k, k < n → (0 ≤ (xat l k).at_ ∧ (xat l k).at_ ≤ 512) ∧ (1 ≤ (xat l k).st ∧ (xat l k).st ≤ 512) ∧ (1 ≤ (xat l k).ct ∧ (xat l k).ct ≤ 512)
  | 0, _, k, hk => by omega
  | n + 1, h, k, hk => by
    rw [badTo_succ, Bool.or_eq_false_iff] at h
    by_cases e : k < n
    · exact right_nums l n h.1 k e
    · obtain rfl : k = n := by omega
      have h1 := endTo_nonneg l k h.1
      have h2 := h.2
      simp [Ext.bad] at h2
      omega
theorem xNum_lt {x : Ext} (h : (0 ≤ x.at_ ∧ x.at_ ≤ 512) ∧ (1 ≤ x.st ∧ x.st ≤ 512) ∧ (1 ≤ x.ct ∧ x.ct ≤ 512)) (j : Nat) : xNum x j ≤ 512 := by
  unfold xNum; split <;> omega
theorem x_nums {x : Ext} (h : (0 ≤ x.at_ ∧ x.at_ ≤ 512) ∧ (1 ≤ x.st ∧ x.st ≤ 512) ∧ (1 ≤ x.ct ∧ x.ct ≤ 512)) : x.at_ = (xNum x 0 : Int) ∧ x.st = (xNum x 1 : Int) ∧ x.ct = (xNum x 2 : Int) := by
  have e0 : xNum x 0 = x.at_.toNat := rfl
  have e1 : xNum x 1 = x.st.toNat := rfl
  have e2 : xNum x 2 = x.ct.toNat := rfl
  omega
set_option maxRecDepth 100000 in
theorem extents_any (w : World) (a : Option Addr) (ca N : Nat) (l0 : List UInt8) (hN : l0.length = N) (hN2 : N ≤ 1000) (base : Nat) (hbase : base ≤ w.heap.size) (hr0 : OwnB base w a ca l0) (b : Option Addr) (c M : Nat) (l : List Ext) (hM : M = l.length) (hl : l.length ≤ 1000) (hr : RdX w b l) (hok : badTo l l.length = false) :
    Calls Try.prog 85 #[.slice a N ca, .slice b M c] w fun e w' => ∃ A c', e = .returned (.slice A (N + 6 * M) c') ∧ OwnB base w' A c' (l0 ++ xsTo l M) ∧ Below w.heap.size w w' := by
  subst hM
  have HN := hid hN; clear hN
  go_enter Try.func85, Try.ntmps85
  go_wp2_with fail
  go_loopw [0, 11] (fun x i wr => ∃ (k : Nat) (A : Option Addr) (c' : Nat), k ≤ l.length ∧ i = .int .i64 k ∧ x = .slice A (N + 6 * k) c' ∧ OwnB base wr A c' (l0 ++ xsTo l k) ∧ Below w.heap.size w wr) (fun _ i _ => l.length - (intOf i).toNat)
  case atStart => exact ⟨0, a, ca, by omega, rfl, rfl, by simpa [xsTo] using hr0, Below.refl _ _⟩
  case round =>
    obtain ⟨k, A, c', hk, rfl, rfl, hR, hbl⟩ := hrel
    by_cases hlt : k < l.length
    · obtain ⟨ba, off, rfl, hcs⟩ := (hr.below hbl).at_ (by intro e; simp [e] at hlt)
      obtain ⟨k0, k1, k2⟩ := hcs k hlt
      clear hcs
      have hxs := right_nums l l.length hok k hlt
      have hxn := hid (xNum_lt hxs)
      obtain ⟨e0, e1, e2⟩ := x_nums hxs
      have hS := hid (show xsTo l (k + 1) = xsTo l k ++ xTo (xat l k) 3 from rfl)
      rw [e0] at k0; rw [e1] at k1; rw [e2] at k2
      obtain ⟨x, hx⟩ : ∃ x, x = xat l k := ⟨_, rfl⟩
      rw [← hx] at k0 k1 k2 hxn hS
      have HL := hid (show (l0 ++ xsTo l k).length = N + 6 * k by rw [List.length_append, HN.out, xsTo_length])
      obtain ⟨L, hL⟩ : ∃ L, L = l0 ++ xsTo l k := ⟨_, rfl⟩
      rw [← hL] at hR HL
      have hL := hid hL
      clear hx hxs e0 e1 e2
      obtain ⟨wo, rfl⟩ : ∃ wo : World, wo = wr := ⟨_, rfl⟩
      go_wp2_with fail
      go_loopw [0, 23] (fun z i wr => ∃ (j : Nat) (A : Option Addr) (c' : Nat), j ≤ 3 ∧ i = .int .i64 j ∧ z = .slice A (N + 6 * k + 2 * j) c' ∧ OwnB base wr A c' (L ++ xTo x j) ∧ RdV wr (some ⟨wo.heap.size + 1, 0, none⟩) [.int .i64 (xNum x 0 : Int), .int .i64 (xNum x 1 : Int), .int .i64 (xNum x 2 : Int)] ∧ Below w.heap.size w wr) (fun _ i _ => 3 - (intOf i).toNat)
      case atStart =>
        refine ⟨0, A, c', by omega, rfl, rfl, ?_, ?_, ?_⟩
        · simp only [xTo, List.append_nil]
          exact hR.below (below_two (Below.refl _ wo) (Nat.le_refl _) _ _)
        · have := RdV.new (wo.alloc (.cells #[.int .i64 (xNum x 0 : Int), .int .i64 (xNum x 1 : Int), .int .i64 (xNum x 2 : Int)] 24)) #[.int .i64 (xNum x 0 : Int), .int .i64 (xNum x 1 : Int), .int .i64 (xNum x 2 : Int)] 3
          simpa using this
        · exact (hbl.alloc hbl.size _).alloc (by have := hbl.size; simp; omega) _
      case round =>
        obtain ⟨j, A2, c2, hj, rfl, rfl, hR2, hV2, hbl2⟩ := hrel
        by_cases hj3 : j < 3
        · have hc : wr.cell? ⟨wo.heap.size + 1, j, none⟩ = some (.int .i64 (xNum x j : Int)) := by
            obtain ⟨b, off, hb, hcs⟩ := hV2 (by simp)
            simp only [Option.some.injEq, Addr.mk.injEq, and_true] at hb
            obtain ⟨rfl, rfl⟩ := hb
            have := hcs j (.int .i64 (xNum x j : Int)) (by rcases j with _ | _ | _ | j <;> first | rfl | omega)
            simpa using this
          have hs := hxn.out j
          go_wp2_with fail
          refine (Add16_any _ _ _ _ (L ++ xTo x j) (by rw [List.length_append, HL.out, xTo_length]) (xNum x j) _ rfl (by rw [List.length_append, HL.out, xTo_length]; omega) hR2.rd (by omega)).mono ?_
          rintro e w2 ⟨A3, c3, rfl, h3, b3⟩
          go_wp2
          go_roundw
          case rel => exact ⟨j + 1, A3, c3, by omega, by go_num, by simp; omega, by rw [show xTo x (j + 1) = xTo x j ++ be (xNum x j) 2 from rfl, ← List.append_assoc]; exact h3.mono (by have := hbl2.size; omega), hV2.below b3, hbl2.trans (b3.mono hbl2.size)⟩
          case measure => simp [intOf]; omega
        · obtain rfl : j = 3 := by omega
          go_wp2
          go_roundw
          case rel => exact ⟨k + 1, A2, c2, by omega, by go_num, by simp; omega, by rw [hS.out, ← List.append_assoc, ← hL.out]; exact hR2, hbl2⟩
          case measure => simp [intOf]; omega
    · obtain rfl : k = l.length := by omega
      go_wp2
      go_ret
      exact ⟨A, c', rfl, hR, hbl⟩
theorem radd2_any (w : World) (a : Option Addr) (c N : Nat) (l : List UInt8) (v : Nat) (hN : l.length = N) (hl : N ≤ 100000) (hr : RdB w a l) (hv : v ≤ 512) :
    Calls Try.prog 106 #[.slice a N c, .int .i64 (v : Int), .int .i64 2] w fun e w' =>
      ∃ A c', e = .returned (.slice A (N + 2) c') ∧ OwnB w.heap.size w' A c' (l ++ be v 2) ∧ Below w.heap.size w w' :=
  radd_any w a c N l hN.symm v 2 _ _ rfl rfl (by omega) hr (by decide) (by omega)
theorem keep3 {v W : World} {p q r : Addr} {a b c : Value} (h : v.cell? p = some a ∧ v.cell? q = some b ∧ v.cell? r = some c) (bl : Below v.heap.size v W) :
    W.cell? p = some a ∧ W.cell? q = some b ∧ W.cell? r = some c := ⟨cell_below bl h.1, cell_below bl h.2.1, cell_below bl h.2.2⟩
theorem below_drew' {v W : World} (h : Below v.drew.heap.size v.drew W) : Below v.heap.size v W := (below_drew v).trans h
set_option maxRecDepth 100000 in
theorem refextents_any (w : World) (a : Option Addr) (ca N : Nat) (l0 : List UInt8) (hN : l0.length = N) (hN2 : N ≤ 1000) (base : Nat) (hbase : base ≤ w.heap.size) (hr0 : OwnB base w a ca l0) (b : Option Addr) (c M : Nat) (l : List Ext) (hM : M = l.length) (hl : l.length ≤ 1000) (hr : RdX w b l) (hok : badTo l l.length = false) :
    Calls Try.prog 107 #[.slice a N ca, .slice b M c] w fun e w' => ∃ A c', e = .returned (.slice A (N + 6 * M) c') ∧ OwnB base w' A c' (l0 ++ xsTo l M) ∧ Below w.heap.size w w' := by
  subst hM
  have HN := hid hN; clear hN
  go_enter Try.func107, Try.ntmps107
  go_wp2_with fail
  go_loopw [0, 5] (fun x i wr => ∃ (k : Nat) (A : Option Addr) (c' : Nat), k ≤ l.length ∧ i = .int .i64 k ∧ x = .slice A (N + 6 * k) c' ∧ OwnB base wr A c' (l0 ++ xsTo l k) ∧ Below w.heap.size w wr) (fun _ i _ => l.length - (intOf i).toNat)
  case atStart => exact ⟨0, a, ca, by omega, rfl, rfl, by simpa [xsTo] using hr0, Below.refl _ _⟩
  case round =>
    obtain ⟨k, A, c', hk, rfl, rfl, hR, hbl⟩ := hrel
    by_cases hlt : k < l.length
    · obtain ⟨ba, off, rfl, hcs⟩ := (hr.below hbl).at_ (by intro e; simp [e] at hlt)
      have sv := hcs k hlt
      clear hcs
      have hxs := right_nums l l.length hok k hlt
      have hxn := xNum_lt hxs
      obtain ⟨e0, e1, e2⟩ := x_nums hxs
      have hS := hid (show xsTo l (k + 1) = xsTo l k ++ (([] ++ be (xNum (xat l k) 0) 2) ++ be (xNum (xat l k) 1) 2 ++ be (xNum (xat l k) 2) 2) from rfl)
      rw [e0, e1, e2] at sv
      have q0 := hid (hxn 0); have q1 := hid (hxn 1); have q2 := hid (hxn 2)
      obtain ⟨n0, h0⟩ : ∃ n, n = xNum (xat l k) 0 := ⟨_, rfl⟩
      obtain ⟨n1, h1⟩ : ∃ n, n = xNum (xat l k) 1 := ⟨_, rfl⟩
      obtain ⟨n2, h2⟩ : ∃ n, n = xNum (xat l k) 2 := ⟨_, rfl⟩
      rw [← h0] at q0 sv hS; rw [← h1] at q1 sv hS; rw [← h2] at q2 sv hS
      have L0 : (l0 ++ xsTo l k).length = N + 6 * k := by rw [List.length_append, HN.out, xsTo_length]
      have L1 : (l0 ++ xsTo l k ++ be n0 2).length = N + 6 * k + 2 := by rw [List.length_append, L0, be_length]
      have L2 : (l0 ++ xsTo l k ++ be n0 2 ++ be n1 2).length = N + 6 * k + 2 + 2 := by rw [List.length_append, L1, be_length]
      have L0 := hid L0; have L1 := hid L1; have L2 := hid L2
      clear h0 h1 h2 hxs e0 e1 e2 hxn
      obtain ⟨v, hv⟩ : ∃ v, v = wr := ⟨_, rfl⟩
      subst hv
      have hRd : RdB v.drew A (l0 ++ xsTo l k) := hR.rd
      have hbv : base ≤ v.heap.size := by have := hbl.size; omega
      go_wp2_with fail
      go_region_held3 (fun W => W.cell? ⟨ba, off + k * 3, none⟩ = some (.int .i64 (n0 : Int)) ∧ W.cell? ⟨ba, off + k * 3 + 1, none⟩ = some (.int .i64 (n1 : Int)) ∧ W.cell? ⟨ba, off + k * 3 + 2, none⟩ = some (.int .i64 (n2 : Int)))
        (first | exact sv | exact s1 | exact s2 | exact s3)
        (first
        | (go_at_call_of 106 (n0); refine (radd2_any v.drew _ _ _ (l0 ++ xsTo l k) n0 L0.out (by omega) hRd q0.out).mono ?_; rintro e w1 ⟨A1, c1, rfl, g1, b1⟩; have bb1 := below_drew' b1; have s1 := keep3 sv bb1)
        | (go_at_call_of 106 (n1); refine (radd2_any _ _ _ _ (l0 ++ xsTo l k ++ be n0 2) n1 L1.out (by omega) g1.rd q1.out).mono ?_; rintro e w2 ⟨A2, c2, rfl, g2, b2⟩; have bb2 := bb1.trans (b2.mono bb1.size); have s2 := keep3 sv bb2)
        | (go_at_call_of 106 (n2); refine (radd2_any _ _ _ _ (l0 ++ xsTo l k ++ be n0 2 ++ be n1 2) n2 L2.out (by omega) g2.rd q2.out).mono ?_; rintro e w3 ⟨A3, c3, rfl, g3, b3⟩; have bb3 := bb2.trans (b3.mono bb2.size); have s3 := keep3 sv bb3))
      go_wp2
      go_roundw
      case rel => exact ⟨k + 1, A3, c3, by omega, by go_num, by simp; omega, by rw [hS.out]; simpa [List.append_assoc] using g3.mono (show base ≤ w2.heap.size by have := bb2.size; omega), hbl.trans (bb3.mono hbl.size)⟩
      case measure => simp [intOf]; omega
    · obtain rfl : k = l.length := by omega
      go_wp2
      go_ret
      exact ⟨A, c', rfl, hR, hbl⟩
end Go.Proofs.Ytahlhdhljjpeoaa

/- PutNode of both sides. -/
namespace Go.Proofs.Ytahlhdhljjpeoaa
open Go.RowKit
set_option maxHeartbeats 1600000
set_option linter.unusedVariables false
set_option linter.unusedSimpArgs false

/-- A block of extents. -/
def inB (l : List Ext) : List UInt8 := xsTo l l.length ++ zeros (4088 - 6 * l.length)
def nodeB (l : List Ext) : List UInt8 := be l.length 2 ++ be 0 2 ++ be (crcMore 0 (inB l)) 4 ++ inB l
def okL (l : List Ext) : Bool := decide (l.length ≤ 250) && rightX l
def putL (l : List Ext) : List UInt8 := if okL l then nodeB l else []
def errL (l : List Ext) : Int := if okL l then 0 else 2
theorem inB_length (l : List Ext) (h : l.length ≤ 250) : (inB l).length = 4088 := by simp [inB, xsTo_length, zeros_length]; omega
theorem nodeB_length (l : List Ext) (h : l.length ≤ 250) : (nodeB l).length = 4096 := by simp [nodeB, be_length, inB_length l h]
set_option maxRecDepth 100000 in
theorem PutNode_any (w : World) (a : Option Addr) (c N : Nat) (l : List Ext) (hN : N = l.length) (hl : l.length ≤ 200000000000000) (hr : RdX w a l) (ho : okX l) :
    Calls Try.prog 45 #[.slice a N c] w fun e w' => ∃ A c', e = .returned (.tuple #[.slice A (putL l).length c', .int .i64 (errL l)]) ∧ OwnB w.heap.size w' A c' (putL l) ∧ Below w.heap.size w w' := by
  subst hN
  by_cases h250 : 250 < l.length
  · have hok : okL l = false := by simp [okL]; omega
    have hp := hid (show putL l = [] by rw [putL, hok]; rfl)
    have he := hid (show errL l = 2 by rw [errL, hok]; rfl)
    rw [hp.out, he.out]
    go_enter Try.func45, Try.ntmps45
    go_wp2
    go_ret2
    exact ⟨none, 0, rfl, OwnB.nil _ _, Below.refl _ _⟩
  · have h250 : l.length ≤ 250 := by omega
    by_cases hR : rightX l = true
    · have hok : okL l = true := by simp [okL, h250, hR]
      have HP := hid (show putL l = nodeB l by rw [putL, if_pos hok])
      have HE := hid (show errL l = 0 by rw [errL, if_pos hok])
      have HB : badTo l l.length = false := by simpa [rightX] using hR
      have HNL := hid (nodeB_length l h250)
      have HIL := hid (inB_length l h250)
      have HI := hid (show inB l = xsTo l l.length ++ zeros (4088 - 6 * l.length) from rfl)
      have HND := hid (show nodeB l = be l.length 2 ++ be 0 2 ++ be (crcMore 0 (inB l)) 4 ++ inB l from rfl)
      go_enter Try.func45, Try.ntmps45
      go_wp2_with fail
      refine (Right_any _ _ _ _ l rfl hl hr ho).mono ?_
      rw [hR]
      rintro e w1 ⟨rfl, b1⟩
      have hr1 := hr.below b1
      go_wp2_with fail
      refine (extents_any _ none 0 0 [] rfl (by decide) w.heap.size b1.size (OwnB.nil _ _) _ _ _ l rfl (by omega) hr1 HB).mono ?_
      rintro e w2 ⟨A2, c2, rfl, g2, b2⟩
      have bw2 := b1.trans (b2.mono b1.size)
      have hxl := hid (xsTo_length l l.length)
      simp only [List.nil_append] at g2
      go_wp2_with (at_builtin; refine app_zeros rfl (.tmp 16) (.tmp 19) rfl w.heap.size A2 c2 (6 * l.length) (xsTo l l.length) hxl.out.symm rfl g2 (4088 - 6 * l.length) _ (by omega) rfl 4088 (by rw [hxl.out]; omega) (by rw [hxl.out]; omega) w bw2 bw2.size ?_; intro A3 c3 w3 g3 b3)
      rw [← HI.out] at g3
      clear g2 b2 bw2
      have g3r := g3.rd
      have HC := hid (crcMore_lt 0 (inB l))
      obtain ⟨I, hI⟩ : ∃ I, I = inB l := ⟨_, rfl⟩
      rw [← hI] at HC HIL HND g3r
      clear hI HI g3 hxl
      refine (Add16_any _ none 0 0 [] rfl l.length _ rfl (by decide) (RdB.nil _ _) (by omega)).mono ?_
      rintro e w4 ⟨A4, c4, rfl, g4, b4⟩
      have bw4 := b3.trans (b4.mono b3.size)
      have r4 := g4.rd
      have l4 := hid (show ([] ++ be l.length 2).length = 2 by simp [be_length])
      go_wp2_with fail
      refine (Add16_any _ _ _ _ ([] ++ be l.length 2) l4.out.symm 0 _ rfl (by rw [l4.out]; decide) r4 (by decide)).mono ?_
      rintro e w5 ⟨A5, c5, rfl, g5, b5⟩
      have b45 := b4.trans (b5.mono b4.size)
      have bw5 := bw4.trans (b5.mono bw4.size)
      have r5 := g5.rd
      have l5 := hid (show ([] ++ be l.length 2 ++ be 0 2).length = 4 by simp [be_length])
      go_wp2_with fail
      refine (Crc_any _ _ _ _ I HIL.out.symm (by rw [HIL.out]; decide) (g3r.below b45)).mono ?_
      rintro e w6 ⟨rfl, b6⟩
      have b46 := b45.trans (b6.mono b45.size)
      have bw6 := bw5.trans (b6.mono bw5.size)
      go_wp2_with fail
      refine (Add32_any _ _ _ _ ([] ++ be l.length 2 ++ be 0 2) l5.out.symm (crcMore 0 I) _ rfl (by rw [l5.out]; decide) (r5.below b6) HC.out).mono ?_
      rintro e w7 ⟨A7, c7, rfl, g7, b7⟩
      have b47 := b46.trans (b7.mono b46.size)
      have bw7 := bw6.trans (b7.mono bw6.size)
      have g7 := g7.mono bw6.size
      have l7 := hid (show ([] ++ be l.length 2 ++ be 0 2 ++ be (crcMore 0 I) 4).length = 8 by simp [be_length])
      go_wp2_with (at_builtin; refine app_bytes rfl (.tmp 29) (.tmp 30) rfl w.heap.size A7 c7 8 _ l7.out.symm rfl g7 A3 4088 c3 I rfl HIL.out.symm (g3r.below b47) 4096 (by rw [l7.out, HIL.out]) (by rw [l7.out, HIL.out]; decide) w bw7 bw7.size ?_; intro A8 c8 w8 g8 b8 _ _)
      go_ret2
      refine ⟨A8, c8, ?_, ?_, b8⟩
      · rw [HP.out, HE.out, HNL.out]; rfl
      · rw [HP.out, HND.out]; exact g8
    · have hR := eq_false_of_ne_true hR
      have hok : okL l = false := by simp [okL, hR]
      have hp := hid (show putL l = [] by rw [putL, hok]; rfl)
      have he := hid (show errL l = 2 by rw [errL, hok]; rfl)
      rw [hp.out, he.out]
      go_enter Try.func45, Try.ntmps45
      go_wp2_with fail
      refine (Right_any _ _ _ _ l rfl hl hr ho).mono ?_
      rw [hR]
      rintro e w1 ⟨rfl, b1⟩
      go_wp2
      go_ret2
      exact ⟨none, 0, rfl, OwnB.nil _ _, b1⟩
end Go.Proofs.Ytahlhdhljjpeoaa

/- The document's PutNode. -/
namespace Go.Proofs.Ytahlhdhljjpeoaa
open Go.RowKit
set_option maxHeartbeats 1600000
set_option linter.unusedVariables false
set_option linter.unusedSimpArgs false

set_option maxRecDepth 100000 in
theorem refPutNode_any (w : World) (a : Option Addr) (c N : Nat) (l : List Ext) (hN : N = l.length) (hl : l.length ≤ 200000000000000) (hr : RdX w a l) (ho : okX l) :
    Calls Try.prog 84 #[.slice a N c] w fun e w' => ∃ A c', e = .returned (.tuple #[.slice A (putL l).length c', .int .i64 (errL l)]) ∧ OwnB w.heap.size w' A c' (putL l) ∧ Below w.heap.size w w' := by
  subst hN
  by_cases h250 : 250 < l.length
  · have hok : okL l = false := by simp [okL]; omega
    have hp := hid (show putL l = [] by rw [putL, hok]; rfl)
    have he := hid (show errL l = 2 by rw [errL, hok]; rfl)
    rw [hp.out, he.out]
    go_enter Try.func84, Try.ntmps84
    go_wp2
    go_ret2
    exact ⟨none, 0, rfl, OwnB.nil _ _, Below.refl _ _⟩
  · have h250 : l.length ≤ 250 := by omega
    by_cases hR : rightX l = true
    · have hok : okL l = true := by simp [okL, h250, hR]
      have HP := hid (show putL l = nodeB l by rw [putL, if_pos hok])
      have HE := hid (show errL l = 0 by rw [errL, if_pos hok])
      have HB : badTo l l.length = false := by simpa [rightX] using hR
      have HNL := hid (nodeB_length l h250)
      have HIL := hid (inB_length l h250)
      have HI := hid (show inB l = xsTo l l.length ++ zeros (4088 - 6 * l.length) from rfl)
      have HND := hid (show nodeB l = be l.length 2 ++ be 0 2 ++ be (crcMore 0 (inB l)) 4 ++ inB l from rfl)
      go_enter Try.func84, Try.ntmps84
      go_wp2_with fail
      refine (refRight_any _ _ _ _ l rfl hl hr ho).mono ?_
      rw [hR]
      rintro e w1 ⟨rfl, b1⟩
      have hr1 := hr.below b1
      go_wp2_with fail
      refine (refextents_any _ none 0 0 [] rfl (by decide) w.heap.size b1.size (OwnB.nil _ _) _ _ _ l rfl (by omega) hr1 HB).mono ?_
      rintro e w2 ⟨A2, c2, rfl, g2, b2⟩
      have bw2 := b1.trans (b2.mono b1.size)
      have hxl := hid (xsTo_length l l.length)
      simp only [List.nil_append] at g2
      go_wp2_with fail
      go_loopw [4] (fun x wr => ∃ (k : Nat) (A : Option Addr) (c' : Nat), k ≤ 4088 - 6 * l.length ∧ x = .slice A (6 * l.length + k) c' ∧ OwnB w.heap.size wr A c' (xsTo l l.length ++ zeros k) ∧ Below w.heap.size w wr) (fun x _ => 4088 - lenOfV x)
      case atStart => exact ⟨0, A2, c2, by omega, by simp, by simpa [zeros] using g2, bw2⟩
      case round =>
       obtain ⟨k, A, c', hk, rfl, hO, hbl⟩ := hrel
       by_cases hlt : k < 4088 - 6 * l.length
       · have hlt' : 6 * l.length + k < 4088 := by omega
         have HO' := hid hO; clear hO
         go_wp2_with (at_builtin; refine app_bytes rfl (.tmp 19) (.tmp 20) rfl w.heap.size A c' (6 * l.length + k) (xsTo l l.length ++ zeros k) (by rw [List.length_append, hxl.out, zeros_length]) rfl (HO'.out.below ((Below.refl _ _).alloc (Nat.le_refl _) _)) (some ⟨_, 0, none⟩) 1 1 [0] rfl rfl (RdB.lit _ _ _ _ (by simp [B8s, B8]) rfl) (6 * l.length + k + 1) (by rw [List.length_append, hxl.out, zeros_length]; rfl) (by rw [List.length_append, hxl.out, zeros_length]; simp; omega) w (hbl.alloc hbl.size _) (by have := hbl.size; simp; omega) ?_; intro A1 c1 w6 h6 b6 _ _)
         go_roundw
         case rel => exact ⟨k + 1, A1, c1, by omega, rfl, by rw [zeros_succ, ← List.append_assoc]; exact h6, b6⟩
         case measure => simp [lenOfV]; omega
       · obtain rfl : k = 4088 - 6 * l.length := by omega
         have hk4 : 6 * l.length + (4088 - 6 * l.length) = 4088 := by omega
         rw [hk4]
         rw [← HI.out] at hO
         have g3r := hO.rd
         have HC := hid (crcMore_lt 0 (inB l))
         obtain ⟨I, hI⟩ : ∃ I, I = inB l := ⟨_, rfl⟩
         rw [← hI] at HC HIL HND g3r
         clear hI HI hO hxl hk4 hlt hk g2 b2 bw2
         go_wp2_with fail
         refine (radd2_any _ none 0 0 [] l.length rfl (by decide) (RdB.nil _ _) (by omega)).mono ?_
         rintro e w4 ⟨A4, c4, rfl, g4, b4⟩
         have bw4 := hbl.trans (b4.mono hbl.size)
         have r4 := g4.rd
         have l4 := hid (show ([] ++ be l.length 2).length = 2 by simp [be_length])
         go_wp2_with fail
         refine (radd_any _ _ _ _ ([] ++ be l.length 2) l4.out.symm 0 2 _ _ rfl rfl (by rw [l4.out]; decide) r4 (by decide) (by decide)).mono ?_
         rintro e w5 ⟨A5, c5, rfl, g5, b5⟩
         have b45 := b4.trans (b5.mono b4.size)
         have bw5 := bw4.trans (b5.mono bw4.size)
         have r5 := g5.rd
         have l5 := hid (show ([] ++ be l.length 2 ++ be 0 2).length = 4 by simp [be_length])
         go_wp2_with fail
         refine (refMore_any _ 0 _ rfl (by omega) _ _ _ I HIL.out.symm (by rw [HIL.out]; decide) (g3r.below b45)).mono ?_
         rintro e w' ⟨rfl, rfl⟩
         have HC' := HC.out
         go_wp2_with fail
         refine (radd_any _ _ _ _ ([] ++ be l.length 2 ++ be 0 2) l5.out.symm (crcMore 0 I) 4 _ _ rfl rfl (by rw [l5.out]; decide) r5 (by decide) (by have := HC.out; omega)).mono ?_
         rintro e w7 ⟨A7, c7, rfl, g7, b7⟩
         have b47 := b45.trans (b7.mono b45.size)
         have bw7 := bw5.trans (b7.mono bw5.size)
         have g7 := g7.mono bw5.size
         have l7 := hid (show ([] ++ be l.length 2 ++ be 0 2 ++ be (crcMore 0 I) 4).length = 8 by simp [be_length])
         go_wp2_with (at_builtin; refine app_bytes rfl (.tmp 30) (.tmp 31) rfl w.heap.size A7 c7 8 ([] ++ be l.length 2 ++ be 0 2 ++ be (crcMore 0 I) 4) l7.out.symm rfl g7 A 4088 c' I rfl HIL.out.symm (g3r.below b47) 4096 (by rw [l7.out, HIL.out]) (by rw [l7.out, HIL.out]; decide) w bw7 bw7.size ?_; intro A8 c8 w8 g8 b8 _ _)
         go_ret2
         refine ⟨A8, c8, ?_, ?_, b8⟩
         · rw [HP.out, HE.out, HNL.out]; rfl
         · rw [HP.out, HND.out]; exact g8
    · have hR := eq_false_of_ne_true hR
      have hok : okL l = false := by simp [okL, hR]
      have hp := hid (show putL l = [] by rw [putL, hok]; rfl)
      have he := hid (show errL l = 2 by rw [errL, hok]; rfl)
      rw [hp.out, he.out]
      go_enter Try.func84, Try.ntmps84
      go_wp2_with fail
      refine (refRight_any _ _ _ _ l rfl hl hr ho).mono ?_
      rw [hR]
      rintro e w1 ⟨rfl, b1⟩
      go_wp2
      go_ret2
      exact ⟨none, 0, rfl, OwnB.nil _ _, b1⟩
end Go.Proofs.Ytahlhdhljjpeoaa

/- GetSuper of both sides. -/
namespace Go.Proofs.Ytahlhdhljjpeoaa
open Go.RowKit
set_option maxHeartbeats 800000
set_option linter.unusedVariables false
set_option linter.unusedSimpArgs false

/-- A number of eight bytes, as an int. -/
def w64 (n : Nat) : Int := if n < 9223372036854775808 then (n : Int) else (n : Int) - 18446744073709551616
theorem w64_in (n : Nat) (h : n < 18446744073709551616) : -9223372036854775808 ≤ w64 n ∧ w64 n ≤ 9223372036854775807 := by unfold w64; split <;> omega
theorem w64_wrap (n : Nat) (h : n < 18446744073709551616) : IntKind.i64.wrap (n : Int) = w64 n := by
  rw [IntKind.wrap_i64]; unfold w64; split <;> omega
theorem wrap64_nat (n : Nat) (h : n < 18446744073709551616) : wrap64 (n : Int) = w64 n := by
  unfold wrap64 w64; split <;> omega
theorem rnumber_any (w : World) (a : Option Addr) (c N : Nat) (l : List UInt8) (hN : N = l.length) (p : Int) (n : Nat) (y : Int) (hy : y = (n : Int)) (hl : l.length ≤ 200000000000000) (hr : RdB w a l) (hp : -9223372036854775808 ≤ p ∧ p ≤ 9223372036854775807) (hn : n ≤ 8) :
    Calls Try.prog 109 #[.slice a N c, .int .i64 p, .int .i64 y] w fun e w' => e = .returned (.int .i64 (w64 (numV l p n))) ∧ w = w' := by
  subst hN hy
  have hlt : numV l p n < 18446744073709551616 := by
    have := numV_lt l p n
    have h2 : 256 ^ n ≤ 256 ^ 8 := Nat.pow_le_pow_right (by decide) hn
    omega
  have e1 := hid (wrap64_nat _ hlt); have e2 := hid (w64_wrap _ hlt)
  have HL := hid hlt; clear hlt
  go_enter Try.func109, Try.ntmps109
  go_wp2_with fail
  refine (Number_any _ _ _ _ l rfl p n hl hr hp hn).mono ?_
  rintro e w' ⟨rfl, rfl⟩
  go_wp2
  go_ret
  refine ⟨?_, rfl⟩
  show Ending.returned (.int .i64 (wrap64 _)) = _
  rw [e1.out]

/-- What the bytes say. -/
def gN (l : List UInt8) (k : Nat) : Int := w64 (numV l (8 + 8 * (k : Int)) 8)
def getS (l : List UInt8) : Sup := ⟨gN l 0, gN l 1, gN l 2, gN l 3⟩
def isS (l : List UInt8) : Bool := okS (getS l) && (supB (getS l) == l)
def gotS (l : List UInt8) : Sup := if isS l then getS l else ⟨0, 0, 0, 0⟩
def gerrS (l : List UInt8) : Int := if isS l then 0 else 30
theorem numV8_lt (l : List UInt8) (p : Int) : numV l p 8 < 18446744073709551616 := numV_lt l p 8
/-- The four numbers, so far. -/
def gTo (l : List UInt8) (k : Nat) : List Value := (List.range 4).map fun j => .int .i64 (if j < k then gN l j else 0)
theorem gTo_set (l : List UInt8) (k : Nat) (hk : k < 4) : (gTo l k).set k (.int .i64 (gN l k)) = gTo l (k + 1) := by
  rcases k with _ | _ | _ | _ | k <;> first | rfl | omega
theorem free_of_row {w : World} {g : Nat} {cs : Array Value} {t : TypeId} (h : w.heap[g]? = some (.cells cs t (0, 0))) (k : Nat) : w.frozen? ⟨g, k, none⟩ = false := by
  simp [World.frozen?, h]
end Go.Proofs.Ytahlhdhljjpeoaa

/- Lists of extents of the call's own; append of extents; taken and read. -/
namespace Go.Proofs.Ytahlhdhljjpeoaa
open Go.RowKit
set_option maxHeartbeats 1600000
set_option linter.unusedVariables false
set_option linter.unusedSimpArgs false

def OwnX (base : Nat) (w : World) (a : Option Addr) (c : Nat) (l : List Ext) : Prop := w.ownsRow base 24 3 (.slice a l.length c) l.length (extCells l)
theorem OwnX.rd {base : Nat} {w : World} {a : Option Addr} {c : Nat} {l : List Ext} (h : OwnX base w a c l) : RdX w a l := RdV.own h
theorem OwnX.below {base : Nat} {w w' : World} {a : Option Addr} {c : Nat} {l : List Ext} (h : OwnX base w a c l) (hb : Below w.heap.size w w') : OwnX base w' a c l := own_below h hb
theorem OwnX.mono {base base' : Nat} {w : World} {a : Option Addr} {c : Nat} {l : List Ext} (h : OwnX base w a c l) (hb : base' ≤ base) : OwnX base' w a c l := own_mono h hb
theorem OwnX.nil (base : Nat) (w : World) : OwnX base w none 0 [] := World.ownsRow_nil w base 24 3
theorem extCells_one (l : List Ext) : ∀ u ∈ extCells l, u.oneCell' = true := by
  induction l with
  | nil => intro u hu; cases hu
  | cons x l ih =>
    intro u hu
    rw [extCells, List.mem_append] at hu
    rcases hu with h | h
    · simp [Ext.cells] at h
      rcases h with rfl | rfl | rfl <;> rfl
    · exact ih u h
theorem info_ext : (Try.prog.info? 24).map (fun i => (i.zero, i.size, i.bytes)) = some (some (.agg #[.int .i64 0, .int .i64 0, .int .i64 0]), 3, 24) := by kernel_rfl
/-- append on extents. -/
theorem app_ext {ops : Array Oper} {rest : List Oper} {o : Oper} {a : Act} {Q : Exit → Act → World → Prop} {W : World} (hgd : o.guard = none) (s x : Operand)
    (ho : o.op = .call { callee := .builtin .append, args := #[s, x], argTypes := #[22, 22] })
    (base : Nat) (A0 : Option Addr) (c0 n0 : Nat) (l : List Ext) (hn0 : n0 = l.length) (hs : a.eval s = .slice A0 n0 c0) (HO : OwnX base W A0 c0 l)
    (A : Option Addr) (m c : Nat) (r : List Ext) (hx : a.eval x = .slice A m c) (hl : m = r.length) (HR : RdX W A r)
    (n1 : Nat) (hn1 : n1 = l.length + r.length) (hbytes : l.length + r.length ≤ 7000000000000) (w0 : World) (hB : Below base w0 W) (hbase : base ≤ W.heap.size)
    (h : ∀ A1 c1 w1, OwnX base w1 A1 c1 (l ++ r) → Below base w0 w1 → wpList Try.prog ops Q rest (a.put o.dst (.slice A1 n1 c1)) w1) :
    wpList Try.prog ops Q (o :: rest) a W := by
  subst hl hn0 hn1
  refine app_own hgd s x 22 24 (.agg #[.int .i64 0, .int .i64 0, .int .i64 0]) 3 24 ho Try.underlying22 info_ext rfl (by decide) (by decide) base _ l.length (extCells l) hs HO A r.length c (extCells r) hx (by rw [extCells_length]; omega) HR (extCells_one r) (by omega) w0 hB hbase ?_
  intro A1 c1 w1 h1 hb h2 h3
  refine h A1 c1 w1 ?_ hb
  unfold OwnX
  rw [List.length_append, extCells_append]
  exact h1
/-- Extents at a place, so many. -/
def xAtB (l : List UInt8) (p : Int) : Ext := ⟨(numV l p 2 : Nat), (numV l (p + 2) 2 : Nat), (numV l (p + 4) 2 : Nat)⟩
def xsAtB (l : List UInt8) (p : Int) (n : Nat) : List Ext := (List.range n).map fun (i : Nat) => xAtB l (p + 6 * (i : Int))
theorem xsAtB_length (l : List UInt8) (p : Int) (n : Nat) : (xsAtB l p n).length = n := by simp [xsAtB]
theorem xsAtB_succ (l : List UInt8) (p : Int) (n : Nat) : xsAtB l p (n + 1) = xsAtB l p n ++ [xAtB l (p + 6 * (n : Int))] := by simp [xsAtB, List.range_succ]
theorem numV2_lt (l : List UInt8) (p : Int) : numV l p 2 < 65536 := numV_lt l p 2
theorem taken1_any (w : World) (B : Nat) (a : Option Addr) (c N : Nat) (l : List UInt8) (hN : N = l.length) (hl : l.length ≤ 200000000000000) (hr : RdB w a l) (hc : w.heap[B]? = some (.cells #[.slice a N c] 61 (0, 0))) (p : Int) (hp : -1000000 ≤ p ∧ p ≤ 1000000) :
    Calls Try.prog 115 #[.int .i64 p, .pointer (some ⟨B, 0, none⟩)] w fun e w' => e = .returned (.int .i64 (numV l p 2 : Nat)) ∧ w = w' := by
  subst hN
  have hcell := cell_of_one hc
  have hx := numV2_lt l p
  go_enter Try.func115, Try.ntmps115
  go_wp2_with fail
  refine (U16_any _ _ _ _ l rfl p hl hr (by omega)).mono ?_
  rintro e w' ⟨rfl, rfl⟩
  go_wp2
  go_ret
  exact ⟨rfl, rfl⟩
theorem RdX.lit (w : World) (cs : Array Value) (t : TypeId) (l : List Ext) (h : cs.toList = extCells l) {g : Nat} (hg : g = w.heap.size) : RdX (w.alloc (.cells cs t)) (some ⟨g, 0, none⟩) l := by
  subst hg
  have := RdV.new w cs t
  rw [h] at this
  exact this
set_option maxRecDepth 100000 in
theorem taken_any (w : World) (a : Option Addr) (c N : Nat) (l : List UInt8) (hN : N = l.length) (hl : l.length ≤ 200000000000000) (hr : RdB w a l) (p : Int) (hp : 0 ≤ p ∧ p ≤ 1000) (n : Nat) (hn : n ≤ 65535) :
    Calls Try.prog 96 #[.slice a N c, .int .i64 p, .int .i64 (n : Int)] w fun e w' => ∃ A c', e = .returned (.slice A n c') ∧ OwnX w.heap.size w' A c' (xsAtB l p n) ∧ Below w.heap.size w w' := by
  subst hN
  have hmf : ∀ (fn : Fn) (first cap : Array Value) (w : World), (Instr.makeFunc fn first cap).run Try.prog w = .ok (.func fn first cap) w := fun _ _ _ _ => rfl
  go_enter Try.func96, Try.ntmps96
  go_wp2_with fail
  obtain ⟨v, hv⟩ : ∃ v, v = w.alloc (.cells #[.slice a l.length c] 61) := ⟨_, rfl⟩
  have bv : Below w.heap.size w v := by rw [hv]; exact (Below.refl _ w).alloc (Nat.le_refl _) _
  have hbv : v.heap[w.heap.size]? = some (.cells #[.slice a l.length c] 61 (0, 0)) := by rw [hv]; exact heap_alloc_new w _
  have hvs : w.heap.size < v.heap.size := by rw [hv]; simp
  have hrv := hr.below bv
  rw [← hv]
  clear hv
  go_loopw [7, 13] (fun x i wr => ∃ (k : Nat) (A : Option Addr) (c' : Nat), k ≤ n ∧ i = .int .i64 k ∧ x = .slice A k c' ∧ OwnX v.heap.size wr A c' (xsAtB l p k) ∧ Below v.heap.size v wr) (fun _ i _ => n - (intOf i).toNat)
  case atStart => exact ⟨0, none, 0, by omega, rfl, rfl, OwnX.nil _ _, Below.refl _ _⟩
  case round =>
    obtain ⟨k, A, c', hk, rfl, rfl, hO, hbl⟩ := hrel
    have hbx := (hbl.block w.heap.size hvs).trans hbv
    by_cases hlt : k < n
    · have hrk := hrv.below hbl
      go_wp2_with fail
      refine (taken1_any _ _ _ _ _ l rfl hl hrk hbx (p + 6 * (k : Int)) (by omega)).mono ?_
      rintro e w' ⟨rfl, rfl⟩
      go_wp2_with fail
      refine (taken1_any _ _ _ _ _ l rfl hl hrk hbx (p + 6 * (k : Int) + 2) (by omega)).mono ?_
      rintro e w' ⟨rfl, rfl⟩
      go_wp2_with fail
      refine (taken1_any _ _ _ _ _ l rfl hl hrk hbx (p + 6 * (k : Int) + 4) (by omega)).mono ?_
      rintro e w' ⟨rfl, rfl⟩
      go_wp2_with (at_builtin; refine app_ext rfl (.tmp 20) (.tmp 33) rfl v.heap.size A c' k (xsAtB l p k) (xsAtB_length _ _ _).symm rfl (hO.below ((Below.refl _ _).alloc (Nat.le_refl _) _)) (some ⟨_, 0, none⟩) 1 1 [xAtB l (p + 6 * (k : Int))] rfl rfl (RdX.lit _ _ _ _ (by simp [extCells, Ext.cells, xAtB]) rfl) (k + 1) (by rw [xsAtB_length]; rfl) (by rw [xsAtB_length]; simp; omega) v (hbl.alloc hbl.size _) (by have := hbl.size; simp; omega) ?_; intro A1 c1 w8 h8 b8)
      go_roundw
      case rel => exact ⟨k + 1, A1, c1, by omega, by go_num, rfl, by rw [xsAtB_succ]; exact h8, b8⟩
      case measure => simp [intOf]; omega
    · obtain rfl : k = n := by omega
      go_wp2
      go_ret
      exact ⟨A, c', rfl, hO.mono bv.size, bv.trans (hbl.mono bv.size)⟩
theorem w64_nat (n : Nat) (h : n < 9223372036854775808) : w64 n = (n : Int) := by unfold w64; rw [if_pos h]
theorem rnumber2_any (w : World) (a : Option Addr) (c N : Nat) (l : List UInt8) (hN : N = l.length) (p : Int) (hl : l.length ≤ 200000000000000) (hr : RdB w a l) (hp : -9223372036854775808 ≤ p ∧ p ≤ 9223372036854775807) :
    Calls Try.prog 109 #[.slice a N c, .int .i64 p, .int .i64 2] w fun e w' => e = .returned (.int .i64 (numV l p 2 : Nat)) ∧ w = w' := by
  have := numV2_lt l p
  have h := rnumber_any w a c N l hN p 2 2 rfl hl hr hp (by decide)
  rw [w64_nat _ (by omega)] at h
  exact h
set_option maxRecDepth 100000 in
theorem read_any (w : World) (a : Option Addr) (c N : Nat) (l : List UInt8) (hN : N = l.length) (hl : l.length ≤ 200000000000000) (hr : RdB w a l) (p : Int) (hp : 0 ≤ p ∧ p ≤ 1000) (n : Nat) (hn : n ≤ 65535) :
    Calls Try.prog 110 #[.slice a N c, .int .i64 p, .int .i64 (n : Int)] w fun e w' => ∃ A c', e = .returned (.slice A n c') ∧ OwnX w.heap.size w' A c' (xsAtB l p n) ∧ Below w.heap.size w w' := by
  subst hN
  go_enter Try.func110, Try.ntmps110
  go_wp2_with fail
  go_loopw [7, 8] (fun x i wr => ∃ (k : Nat) (A : Option Addr) (c' : Nat), k ≤ n ∧ i = .int .i64 k ∧ x = .slice A k c' ∧ OwnX w.heap.size wr A c' (xsAtB l p k) ∧ Below w.heap.size w wr) (fun _ i _ => n - (intOf i).toNat)
  case atStart => exact ⟨0, none, 0, by omega, rfl, rfl, OwnX.nil _ _, Below.refl _ _⟩
  case round =>
    obtain ⟨k, A, c', hk, rfl, rfl, hO, hbl⟩ := hrel
    by_cases hlt : k < n
    · have hrk := hr.below hbl
      go_wp2_with fail
      refine (rnumber2_any _ _ _ _ l rfl (p + 6 * (k : Int)) hl hrk (by omega)).mono ?_
      rintro e w' ⟨rfl, rfl⟩
      go_wp2_with fail
      refine (rnumber2_any _ _ _ _ l rfl (p + 6 * (k : Int) + 2) hl hrk (by omega)).mono ?_
      rintro e w' ⟨rfl, rfl⟩
      go_wp2_with fail
      refine (rnumber2_any _ _ _ _ l rfl (p + 6 * (k : Int) + 4) hl hrk (by omega)).mono ?_
      rintro e w' ⟨rfl, rfl⟩
      go_wp2_with (at_builtin; refine app_ext rfl (.tmp 14) (.tmp 36) rfl w.heap.size A c' k (xsAtB l p k) (xsAtB_length _ _ _).symm rfl (hO.below ((Below.refl _ _).alloc (Nat.le_refl _) _)) (some ⟨_, 0, none⟩) 1 1 [xAtB l (p + 6 * (k : Int))] rfl rfl (RdX.lit _ _ _ _ (by simp [extCells, Ext.cells, xAtB]) rfl) (k + 1) (by rw [xsAtB_length]; rfl) (by rw [xsAtB_length]; simp; omega) w (hbl.alloc hbl.size _) (by have := hbl.size; simp; omega) ?_; intro A1 c1 w8 h8 b8)
      go_roundw
      case rel => exact ⟨k + 1, A1, c1, by omega, by go_num, rfl, by rw [xsAtB_succ]; exact h8, b8⟩
      case measure => simp [intOf]; omega
    · obtain rfl : k = n := by omega
      go_wp2
      go_ret
      exact ⟨A, c', rfl, hO, hbl⟩
end Go.Proofs.Ytahlhdhljjpeoaa
