/- The superblock: the document's PutSuper, and GetSuper of both sides. -/
import Derived.Test.YtjblpejekcbokaaSup
import Derived.Deep.RegionHeld3
import Derived.BigRegion
namespace Go.Proofs.Ytjblpejekcbokaa
open Go.RowKit
theorem below_drew (w : World) : Below w.heap.size w w.drew := ⟨rfl, rfl, rfl, Nat.le_refl _, fun _ _ => rfl⟩
set_option maxHeartbeats 800000
set_option linter.unusedVariables false
set_option linter.unusedSimpArgs false

def lenOfV : Value → Nat
  | .slice _ n _ => n
  | _ => 0
theorem zeros_succ (k : Nat) : zeros (k + 1) = zeros k ++ [0] := by simp [zeros, List.replicate_succ']
theorem radd_any (w : World) (a : Option Addr) (c N : Nat) (l : List UInt8) (hN : N = l.length) (v n : Nat) (x y : Int) (hx : x = (v : Int)) (hy : y = (n : Int)) (hl : l.length ≤ 199999999999000) (hr : RdB w a l) (hn : n ≤ 8) (hv : v < 9223372036854775808) :
    Calls Try.prog 41 #[.slice a N c, .int .i64 x, .int .i64 y] w fun e w' =>
      ∃ A c', e = .returned (.slice A (N + n) c') ∧ OwnB w.heap.size w' A c' (l ++ be v n) ∧ Below w.heap.size w w' := by
  subst hN hx hy
  have HV := hid (show v < 18446744073709551616 by omega)
  go_enter Try.func41, Try.ntmps41
  go_wp2_with fail
  refine (refAdd_any _ _ _ _ l rfl v n _ rfl hl hr hn HV.out).mono ?_
  rintro e w1 ⟨A1, c1, rfl, h1, b1⟩
  go_wp2
  go_ret
  exact ⟨A1, c1, rfl, h1, b1⟩
theorem conv_const_drew (w : World) (C : Array Value) (n c : Nat) (g : Nat) (hg : g = w.heap.size) : (convert 31 31 (.slice (some ⟨g, 0, none⟩) n c)).run Try.prog (w.alloc (.cells C 5)).drew = .ok (.slice (some ⟨g, 0, none⟩) n c) (w.alloc (.cells C 5 (C.size, C.size + 1))).drew := conv_const w.drew C n c g hg
theorem RdB.markedd (w : World) (cs : Array Value) (t : TypeId) (p : Nat × Nat) (l : List UInt8) (h : cs.toList = B8s l) {g : Nat} (hg : g = w.heap.size) : RdB (w.alloc (.cells cs t p)).drew (some ⟨g, 0, none⟩) l := RdB.marked w cs t p l h hg
theorem radd8_any (w : World) (a : Option Addr) (c N : Nat) (l : List UInt8) (v : Nat) (hN : l.length = N) (hl : N ≤ 1000) (hr : RdB w a l) (hv : v < 9223372036854775808) :
    Calls Try.prog 41 #[.slice a N c, .int .i64 (v : Int), .int .i64 8] w fun e w' =>
      ∃ A c', e = .returned (.slice A (N + 8) c') ∧ OwnB w.heap.size w' A c' (l ++ be v 8) ∧ Below w.heap.size w w' :=
  radd_any w a c N l hN.symm v 8 _ _ rfl rfl (by omega) hr (by decide) hv
theorem keep4 {v W : World} {g : Nat} {a b c d : Value} (h : v.cell? ⟨g, 0, none⟩ = some a ∧ v.cell? ⟨g, 1, none⟩ = some b ∧ v.cell? ⟨g, 2, none⟩ = some c ∧ v.cell? ⟨g, 3, none⟩ = some d) (bl : Below v.heap.size v W) :
    W.cell? ⟨g, 0, none⟩ = some a ∧ W.cell? ⟨g, 1, none⟩ = some b ∧ W.cell? ⟨g, 2, none⟩ = some c ∧ W.cell? ⟨g, 3, none⟩ = some d := ⟨cell_below bl h.1, cell_below bl h.2.1, cell_below bl h.2.2.1, cell_below bl h.2.2.2⟩
set_option maxRecDepth 100000 in
theorem refPutSuper_any (w : World) (s : Sup) :
    Calls Try.prog 13 #[s.val] w fun e w' => ∃ A c', e = .returned (.tuple #[.slice A (putS s).length c', .int .i64 (errS s)]) ∧ OwnB w.heap.size w' A c' (putS s) ∧ Below w.heap.size w w' := by
  have kc := fun (w : World) (C : Array Value) (n c g : Nat) (h : g = w.heap.size) => conv_const_drew w C n c g h
  by_cases hok : okS s = true
  · have hn := sNum_lt hok
    have ho := hok
    simp [okS] at ho
    have q0 : sNum s 0 = s.bl.toNat := rfl
    have q1 : sNum s 1 = s.ep.toNat := rfl
    have q2 : sNum s 2 = s.sq.toNat := rfl
    have q3 : sNum s 3 = s.tl.toNat := rfl
    have p0 : 64 ≤ sNum s 0 ∧ sNum s 0 ≤ 512 := by omega
    have p1 : 1 ≤ sNum s 1 ∧ sNum s 1 ≤ 8388608 := by omega
    have p2 : 1 ≤ sNum s 2 ∧ sNum s 2 ≤ 549755813888 := by omega
    have p3 : sNum s 3 ≤ 511 := by omega
    have e0 : s.bl = (sNum s 0 : Int) := by omega
    have e1 : s.ep = (sNum s 1 : Int) := by omega
    have e2 : s.sq = (sNum s 2 : Int) := by omega
    have e3 : s.tl = (sNum s 3 : Int) := by omega
    have hp : putS s = supB s := by rw [putS, if_pos hok]
    have he : errS s = 0 := by rw [errS, if_pos hok]
    have HP := hid hp; have HE := hid he; clear hp he
    have hv : s.val = .agg #[.int .i64 (sNum s 0 : Int), .int .i64 (sNum s 1 : Int), .int .i64 (sNum s 2 : Int), .int .i64 (sNum s 3 : Int)] := by rw [Sup.val, e0, e1, e2, e3]
    have H0 : supTo s 4 = magicB ++ be (sNum s 0) 8 ++ be (sNum s 1) 8 ++ be (sNum s 2) 8 ++ be (sNum s 3) 8 := rfl
    have H0 := hid H0
    clear e0 e1 e2 e3 hok q0 q1 q2 q3 ho hn
    rw [hv]
    clear hv
    obtain ⟨n0, h0⟩ : ∃ n, n = sNum s 0 := ⟨_, rfl⟩
    obtain ⟨n1, h1⟩ : ∃ n, n = sNum s 1 := ⟨_, rfl⟩
    obtain ⟨n2, h2⟩ : ∃ n, n = sNum s 2 := ⟨_, rfl⟩
    obtain ⟨n3, h3⟩ : ∃ n, n = sNum s 3 := ⟨_, rfl⟩
    rw [← h0, ← h1, ← h2, ← h3] at H0 ⊢
    rw [← h0] at p0; rw [← h1] at p1; rw [← h2] at p2; rw [← h3] at p3
    clear h0 h1 h2 h3
    obtain ⟨p0a, p0b⟩ := p0; obtain ⟨p1a, p1b⟩ := p1; obtain ⟨p2a, p2b⟩ := p2
    go_enter Try.func13, Try.ntmps13
    go_wp2_with fail
    obtain ⟨v, hv⟩ : ∃ v, v = w.alloc (.cells #[.int .i64 (n0 : Int), .int .i64 (n1 : Int), .int .i64 (n2 : Int), .int .i64 (n3 : Int)] 23) := ⟨_, rfl⟩
    have kca := fun (w : World) (C : Array Value) (n c : Nat) => conv_const w C n c _ rfl
    have kcb := fun (w : World) (C : Array Value) (n c : Nat) => conv_const_drew w C n c _ rfl
    have kcc := fun (w : World) (C : Array Value) (n c : Nat) => conv_const w.drew C n c w.heap.size rfl
    clear kc
    have bv : Below w.heap.size w v := by rw [hv]; exact (Below.refl _ w).alloc (Nat.le_refl _) _
    have hg : v.heap[w.heap.size]? = some (.cells #[.int .i64 (n0 : Int), .int .i64 (n1 : Int), .int .i64 (n2 : Int), .int .i64 (n3 : Int)] 23 (0, 0)) := by rw [hv]; exact heap_alloc_new w _
    have sv : v.cell? ⟨w.heap.size, 0, none⟩ = some (.int .i64 (n0 : Int)) ∧ v.cell? ⟨w.heap.size, 1, none⟩ = some (.int .i64 (n1 : Int)) ∧ v.cell? ⟨w.heap.size, 2, none⟩ = some (.int .i64 (n2 : Int)) ∧ v.cell? ⟨w.heap.size, 3, none⟩ = some (.int .i64 (n3 : Int)) := by
      refine ⟨?_, ?_, ?_, ?_⟩ <;> (rw [cell_of_row _ _ _ _ _ _ hg]; rfl)
    rw [← hv]
    clear hv hg
    have l0 : magicB.length = 8 := by simp [be_length, magicB]
    have l1 : (magicB ++ be n0 8).length = 16 := by simp [be_length, magicB]
    have l2 : (magicB ++ be n0 8 ++ be n1 8).length = 24 := by simp [be_length, magicB]
    have l3 : (magicB ++ be n0 8 ++ be n1 8 ++ be n2 8).length = 32 := by simp [be_length, magicB]
    have svm := keep4 sv ((Below.refl _ v).alloc (Nat.le_refl _) (.cells #[.int .u8 76, .int .u8 69, .int .u8 68, .int .u8 71, .int .u8 69, .int .u8 82, .int .u8 48, .int .u8 49] 5 (8, 9)))
    have svn := keep4 sv ((Below.refl _ v).alloc (Nat.le_refl _) (.cells #[.int .u8 76, .int .u8 69, .int .u8 68, .int .u8 71, .int .u8 69, .int .u8 82, .int .u8 48, .int .u8 49] 5))
    have bm : Below v.heap.size v (v.alloc (.cells #[.int .u8 76, .int .u8 69, .int .u8 68, .int .u8 71, .int .u8 69, .int .u8 82, .int .u8 48, .int .u8 49] 5 (8, 9))).drew := ((Below.refl _ v).alloc (Nat.le_refl _) _).trans ((below_drew _).mono (by simp))
    refine wp_region_held_drew (S := (fun W => W.cell? ⟨w.heap.size, 0, none⟩ = some (.int .i64 (n0 : Int)) ∧ W.cell? ⟨w.heap.size, 1, none⟩ = some (.int .i64 (n1 : Int)) ∧ W.cell? ⟨w.heap.size, 2, none⟩ = some (.int .i64 (n2 : Int)) ∧ W.cell? ⟨w.heap.size, 3, none⟩ = some (.int .i64 (n3 : Int)))) (by kernel_rfl) sv (fun hHeld => ?_)
    refine wpAnyH_take (i := 2) (v := ?_) rfl (by kernel_rfl) (by kernel_rfl) (by kernel_rfl) (fun _ _ _ h => h) (Or.inl ⟨by rfl, ?_⟩) (by assumption) ?_
    rotate_left
    · intro w hSw; (try dsimp only at hSw); go_simp; try with_reducible rfl
    try simp only [Act.put, List.setIfInBounds_toArray, List.set_cons_zero, List.set_cons_succ]
    refine wpAnyH_take (i := 3) (v := ?_) rfl (by kernel_rfl) (by kernel_rfl) (by kernel_rfl) (fun _ _ _ h => h) (Or.inl ⟨by rfl, ?_⟩) (by assumption) ?_
    rotate_left
    · intro w hSw; (try dsimp only at hSw); go_simp; try with_reducible rfl
    try simp only [Act.put, List.setIfInBounds_toArray, List.set_cons_zero, List.set_cons_succ]
    refine wpAnyH_take (i := 5) (v := ?_) rfl (by kernel_rfl) (by kernel_rfl) (by kernel_rfl) (fun _ _ _ h => h) (Or.inl ⟨by rfl, ?_⟩) (by assumption) ?_
    rotate_left
    · intro w hSw; (try dsimp only at hSw); go_simp; try with_reducible rfl
    try simp only [Act.put, List.setIfInBounds_toArray, List.set_cons_zero, List.set_cons_succ]
    refine wpAnyH_take (i := 6) (v := ?_) rfl (by kernel_rfl) (by kernel_rfl) (by kernel_rfl) (fun _ _ _ h => h) (Or.inl ⟨by rfl, ?_⟩) (by assumption) ?_
    rotate_left
    · intro w hSw; (try dsimp only at hSw); go_simp; try with_reducible rfl
    try simp only [Act.put, List.setIfInBounds_toArray, List.set_cons_zero, List.set_cons_succ]
    refine wpAnyH_take (i := 8) (v := ?_) rfl (by kernel_rfl) (by kernel_rfl) (by kernel_rfl) (fun _ _ _ h => h) (Or.inl ⟨by rfl, ?_⟩) (by assumption) ?_
    rotate_left
    · intro w hSw; (try dsimp only at hSw); go_simp; try with_reducible rfl
    try simp only [Act.put, List.setIfInBounds_toArray, List.set_cons_zero, List.set_cons_succ]
    refine wpAnyH_take (i := 9) (v := ?_) rfl (by kernel_rfl) (by kernel_rfl) (by kernel_rfl) (fun _ _ _ h => h) (Or.inl ⟨by rfl, ?_⟩) (by assumption) ?_
    rotate_left
    · intro w hSw; (try dsimp only at hSw); go_simp; try with_reducible rfl
    try simp only [Act.put, List.setIfInBounds_toArray, List.set_cons_zero, List.set_cons_succ]
    refine wpAnyH_take (i := 11) (v := ?_) rfl (by kernel_rfl) (by kernel_rfl) (by kernel_rfl) (fun _ _ _ h => h) (Or.inl ⟨by rfl, ?_⟩) (by assumption) ?_
    rotate_left
    · intro w hSw; (try dsimp only at hSw); go_simp; try with_reducible rfl
    try simp only [Act.put, List.setIfInBounds_toArray, List.set_cons_zero, List.set_cons_succ]
    refine wpAnyH_take (i := 12) (v := ?_) rfl (by kernel_rfl) (by kernel_rfl) (by kernel_rfl) (fun _ _ _ h => h) (Or.inl ⟨by rfl, ?_⟩) (by assumption) ?_
    rotate_left
    · intro w hSw; (try dsimp only at hSw); go_simp; try with_reducible rfl
    try simp only [Act.put, List.setIfInBounds_toArray, List.set_cons_zero, List.set_cons_succ]
    refine wpAnyH_ready (rs := [0]) (by kernel_rfl) (by simp) ?_
    refine AllReadyH.cons rfl (fun K hK => ?_) AllReadyH.nil
    go_simp
    refine hK.out _ _ ?_ (fun hHeld => ?_)
    · first | exact sv | exact svm | exact svn | exact s1 | exact s2 | exact s3 | exact s4
    clear hK K
    try simp only [Act.put, List.setIfInBounds_toArray, List.set_cons_zero, List.set_cons_succ]
    refine wpAnyH_ready (rs := [1]) (by kernel_rfl) (by simp) ?_
    refine AllReadyH.cons rfl (fun K hK => ?_) AllReadyH.nil
    go_simp
    refine hK.out _ _ ?_ (fun hHeld => ?_)
    · first | exact sv | exact svm | exact svn | exact s1 | exact s2 | exact s3 | exact s4
    clear hK K
    try simp only [Act.put, List.setIfInBounds_toArray, List.set_cons_zero, List.set_cons_succ]
    refine wpAnyH_ready (rs := [4]) (by kernel_rfl) (by simp) ?_
    refine AllReadyH.cons rfl (fun K hK => ?_) AllReadyH.nil
    go_simp
    go_at_call_of 41 (n0); refine (radd8_any _ _ _ _ magicB n0 l0 (by decide) (RdB.markedd v _ _ _ _ rfl rfl) (by omega)).mono ?_; rintro e w1 ⟨A1, c1, rfl, g1, b1⟩; have bb1 := bm.trans (b1.mono bm.size); have s1 := keep4 sv bb1
    try go_wp2_with fail
    refine hK.out _ _ ?_ (fun hHeld => ?_)
    · first | exact sv | exact svm | exact svn | exact s1 | exact s2 | exact s3 | exact s4
    clear hK K
    try simp only [Act.put, List.setIfInBounds_toArray, List.set_cons_zero, List.set_cons_succ]
    refine wpAnyH_ready (rs := [7]) (by kernel_rfl) (by simp) ?_
    refine AllReadyH.cons rfl (fun K hK => ?_) AllReadyH.nil
    go_simp
    go_at_call_of 41 (n1); refine (radd8_any _ _ _ _ (magicB ++ be n0 8) n1 l1 (by decide) g1.rd (by omega)).mono ?_; rintro e w2 ⟨A2, c2, rfl, g2, b2⟩; have bb2 := bb1.trans (b2.mono bb1.size); have s2 := keep4 sv bb2
    try go_wp2_with fail
    refine hK.out _ _ ?_ (fun hHeld => ?_)
    · first | exact sv | exact svm | exact svn | exact s1 | exact s2 | exact s3 | exact s4
    clear hK K
    try simp only [Act.put, List.setIfInBounds_toArray, List.set_cons_zero, List.set_cons_succ]
    refine wpAnyH_ready (rs := [10]) (by kernel_rfl) (by simp) ?_
    refine AllReadyH.cons rfl (fun K hK => ?_) AllReadyH.nil
    go_simp
    go_at_call_of 41 (n2); refine (radd8_any _ _ _ _ (magicB ++ be n0 8 ++ be n1 8) n2 l2 (by decide) g2.rd (by omega)).mono ?_; rintro e w3 ⟨A3, c3, rfl, g3, b3⟩; have bb3 := bb2.trans (b3.mono bb2.size); have s3 := keep4 sv bb3
    try go_wp2_with fail
    refine hK.out _ _ ?_ (fun hHeld => ?_)
    · first | exact sv | exact svm | exact svn | exact s1 | exact s2 | exact s3 | exact s4
    clear hK K
    try simp only [Act.put, List.setIfInBounds_toArray, List.set_cons_zero, List.set_cons_succ]
    refine wpAnyH_ready (rs := [13]) (by kernel_rfl) (by simp) ?_
    refine AllReadyH.cons rfl (fun K hK => ?_) AllReadyH.nil
    go_simp
    go_at_call_of 41 (n3); refine (radd8_any _ _ _ _ (magicB ++ be n0 8 ++ be n1 8 ++ be n2 8) n3 l3 (by decide) g3.rd (by omega)).mono ?_; rintro e w4 ⟨A4, c4, rfl, g4, b4⟩; have bb4 := bb3.trans (b4.mono bb3.size); have s4 := keep4 sv bb4
    try go_wp2_with fail
    refine hK.out _ _ ?_ (fun hHeld => ?_)
    · first | exact sv | exact svm | exact svn | exact s1 | exact s2 | exact s3 | exact s4
    clear hK K
    try simp only [Act.put, List.setIfInBounds_toArray, List.set_cons_zero, List.set_cons_succ]
    refine wpAnyH_take (i := 14) (v := ?_) rfl (by kernel_rfl) (by kernel_rfl) (by kernel_rfl) (fun _ _ _ h => h) (Or.inl ⟨by rfl, ?_⟩) (by assumption) ?_
    rotate_left
    · intro w hSw; (try dsimp only at hSw); go_simp; try with_reducible rfl
    try simp only [Act.put, List.setIfInBounds_toArray, List.set_cons_zero, List.set_cons_succ]
    refine wpAnyH_done (by kernel_rfl) ?_ _
    have hT := H0.out
    obtain ⟨L, hL⟩ : ∃ L, L = magicB ++ be n0 8 ++ be n1 8 ++ be n2 8 ++ be n3 8 := ⟨_, rfl⟩
    rw [← hL] at g4 hT
    have lL := hid (show L.length = 40 by rw [← hT, supTo_length])
    have hS : Hid (supB s = (L ++ be (crcMore 0 L) 4) ++ zeros 4052) := by show _ = _; rw [← hT]; rfl
    have HLB := hid (supB_length s)
    have bw := bv.trans (bb4.mono bv.size)
    have gr := g4.rd
    have HC := crcMore_lt 0 L
    clear hT hL H0 g1 g2 g3 g4 b1 b2 b3 b4 bb1 bb2 bb3 bb4 s1 s2 s3 s4 sv svm svn bm l0 l1 l2 l3 kca kcb kcc
    go_wp2_with fail
    refine (refMore_any _ 0 _ rfl (by omega) _ _ _ L lL.out.symm (by rw [lL.out]; omega) gr).mono ?_
    rintro e w' ⟨rfl, rfl⟩
    go_wp2_with fail
    refine (radd_any _ _ _ _ L lL.out.symm (crcMore 0 L) 4 _ _ rfl rfl (by rw [lL.out]; omega) gr (by decide) (by omega)).mono ?_
    rintro e w5 ⟨A5, c5, rfl, g5, b5⟩
    have bw5 := bw.trans (b5.mono bw.size)
    have g5 := g5.mono bw.size
    obtain ⟨M, hM⟩ : ∃ M, M = L ++ be (crcMore 0 L) 4 := ⟨_, rfl⟩
    have lM := hid (show M.length = 44 by rw [hM, List.length_append, lL.out, be_length])
    rw [← hM] at g5 hS
    clear hM
    go_wp2_with fail
    go_loopw [4] (fun x wr => ∃ (k : Nat) (A : Option Addr) (c' : Nat), k ≤ 4052 ∧ x = .slice A (44 + k) c' ∧ OwnB w.heap.size wr A c' (M ++ zeros k) ∧ Below w.heap.size w wr) (fun x _ => 4096 - lenOfV x)
    case atStart => exact ⟨0, A5, c5, by omega, rfl, by simpa [zeros] using g5, bw5⟩
    case round =>
      obtain ⟨k, A, c', hk, rfl, hO, hbl⟩ := hrel
      by_cases hlt : k < 4052
      · have hlt' : 44 + k < 4096 := by omega
        have HO' := hid hO; clear hO
        go_wp2_with (at_builtin; refine app_bytes rfl (.tmp 65) (.tmp 66) rfl w.heap.size A c' (44 + k) (M ++ zeros k) (by rw [List.length_append, lM.out, zeros_length]) rfl (HO'.out.below ((Below.refl _ _).alloc (Nat.le_refl _) _)) (some ⟨_, 0, none⟩) 1 1 [0] rfl rfl (RdB.lit _ _ _ _ (by simp [B8s, B8]) rfl) (44 + k + 1) (by rw [List.length_append, lM.out, zeros_length]; rfl) (by rw [List.length_append, lM.out, zeros_length]; simp; omega) w (hbl.alloc hbl.size _) (by have := hbl.size; simp; omega) ?_; intro A1 c1 w6 h6 b6 _ _)
        go_roundw
        case rel => exact ⟨k + 1, A1, c1, by omega, rfl, by rw [zeros_succ, ← List.append_assoc]; exact h6, b6⟩
        case measure => simp [lenOfV]; omega
      · obtain rfl : k = 4052 := by omega
        go_wp2
        go_ret2
        refine ⟨A, c', ?_, ?_, hbl⟩
        · rw [HP.out, HE.out, HLB.out]; rfl
        · rw [HP.out, hS.out]; exact hO
  · have hok := eq_false_of_ne_true hok
    have hp : putS s = [] := by rw [putS, hok]; rfl
    have he : errS s = 2 := by rw [errS, hok]; rfl
    have HP := hid hp; have HE := hid he; clear hp he
    rw [HP.out, HE.out]
    obtain ⟨b, e, q, t⟩ := s
    simp [okS] at hok
    have HK := hid hok; clear hok kc
    simp only [Sup.val]
    go_enter Try.func13, Try.ntmps13
    go_wp2_with fail
    all_goals first
      | (exfalso; have h := HK.out; omega)
      | (go_ret2; exact ⟨none, 0, rfl, OwnB.nil _ _, (Below.refl _ w).alloc (Nat.le_refl _) _⟩)
end Go.Proofs.Ytjblpejekcbokaa
