/- The walk of SuperSpares. -/
import Derived.Test.YtjblpejekcbokaaLaw03m
namespace Go.Proofs.Ytjblpejekcbokaa
open Go.RowKit
set_option maxHeartbeats 3200000
set_option linter.unusedVariables false
set_option linter.unusedSimpArgs false
def gs3 (a b c : Nat) (k : Nat) : Nat := if k = 0 then a else if k = 1 then b else c
theorem row3 {W : World} {L g1 g2 g3 n1 n2 n3 c1 c2 c3 : Nat} {t : TypeId} (h : W.heap[L]? = some (.cells #[.slice (some ⟨g1, 0, none⟩) n1 c1, .slice (some ⟨g2, 0, none⟩) n2 c2, .slice (some ⟨g3, 0, none⟩) n3 c3] t (0, 0))) :
    ∀ k, k < 3 → W.cell? ⟨L, k, none⟩ = some (.slice (some ⟨gs3 g1 g2 g3 k, 0, none⟩) (gs3 n1 n2 n3 k) (gs3 c1 c2 c3 k)) := by
  intro k hk
  rw [cell_of_row _ _ _ _ _ _ h]
  rcases k with _ | _ | _ | k
  · rfl
  · rfl
  · rfl
  · omega
theorem row_two (w : World) (o p : Obj) : ((w.alloc o).alloc p).heap[w.heap.size + 1]? = some p := by
  have h := heap_alloc_new (w.alloc o) p
  have e : (w.alloc o).heap.size = w.heap.size + 1 := by simp
  rw [e] at h
  exact h
theorem own_kpt {S : Nat → Prop} {w w' : World} {base n size : Nat} {e : TypeId} {v : Value} {xs : List Value} (h : w.ownsRow base e size v n xs) (k : Kpt S w w') (hs : ∀ b, base ≤ b → ¬ S b) : w'.ownsRow base e size v n xs := by
  refine ⟨h.1, ?_⟩
  rcases h.2 with h0 | ⟨g', cap, cur, hv, hb, hg, r⟩
  · exact .inl h0
  · exact .inr ⟨g', cap, cur, hv, hb, (k.block g' (heap_in hg) (hs g' hb)).trans hg, r⟩
theorem own_in {w : World} {base n c size : Nat} {e : TypeId} {A : Option Addr} {xs : List Value} (h : w.ownsRow base e size (.slice A n c) n xs) (g o : Nat) (he : A = some ⟨g, o, none⟩) : base ≤ g ∧ g < w.heap.size := by
  subst he
  rcases h.2 with ⟨hv, _⟩ | ⟨g', cap, cur, hv, hb, hg, r⟩
  · simp at hv
  · simp only [Value.slice.injEq, Option.some.injEq, Addr.mk.injEq, and_true, true_and] at hv
    obtain ⟨⟨rfl, rfl⟩, rfl⟩ := hv
    exact ⟨hb, heap_in hg⟩
theorem kpt_below {S : Nat → Prop} {B : Nat} {a w w' : World} (h : Below B a w) (k : Kpt S w w') (hB : B ≤ w.heap.size) (hs : ∀ j, j < B → ¬ S j) : Below B a w' :=
  ⟨k.os.trans h.os, k.tape.trans h.tape, k.output.trans h.output, Nat.le_trans h.size k.size, fun j hj => (k.block j (by omega) (hs j hj)).trans (h.block j hj)⟩
theorem SameExtents_ll (w : World) (a b : Option Addr) (c d : Nat) (l : List Ext) (hl : l.length ≤ 7000000000000) (h1 : RdX w a l) (h2 : RdX w b l) :
    Calls Try.prog 22 #[.slice a l.length c, .slice b l.length d] w fun e w' => e = .returned (.bool true) ∧ Below w.heap.size w w' := by
  have := SameExtents_any w a b c d l.length l.length l l rfl rfl hl h1 h2
  rw [show decide (l = l) = true by simp] at this
  exact this
theorem SameInode_nn (w : World) (n : Ind) (a b : Option Addr) (c d : Nat) (hm : n.dir.length ≤ 7000000000000) (h1 : RdX w a n.dir) (h2 : RdX w b n.dir) :
    Calls Try.prog 21 #[n.val a c, n.val b d] w fun e w' => e = .returned (.bool true) ∧ Below w.heap.size w w' := by
  have := SameInode_any w n n a b c d hm h1 h2
  rw [show decide (n = n) = true by simp] at this
  exact this
set_option maxRecDepth 100000 in
theorem spares_long (w : World) (n : Ind) (l : List Ext) (a : Option Addr) (c : Nat) (x : Option Addr) (d : Nat) (hl : l.length ≤ 7000000000000) (hn1 : n.dir.length ≤ 7000000000000) (h : 300 < l.length ∨ 300 < n.dir.length) :
    Calls Try.prog 8 #[n.val a c, .slice x l.length d] w fun e w' => e = .returned (.bool true) ∧ Below w.heap.size w w' := by
  obtain ⟨k, ln, sz, nd, dir⟩ := n
  simp only [Ind.val, indCells] at *
  have AW := fun w => awake03_any w
  by_cases h1 : 300 < l.length
  · clear h
    go_enter Try.func8, Try.ntmps8
    go_wp2_with fail
    refine (AW _).mono ?_
    rintro e w1 ⟨rfl, b1⟩
    have bw := ((Below.refl _ w).alloc (Nat.le_refl _) _).trans (b1.mono (by simp))
    go_wp2
    go_ret
    exact ⟨rfl, bw⟩
  · have h2 : 300 < dir.length := by omega
    clear h
    go_enter Try.func8, Try.ntmps8
    go_wp2_with fail
    refine (AW _).mono ?_
    rintro e w1 ⟨rfl, b1⟩
    have bw := ((Below.refl _ w).alloc (Nat.le_refl _) _).trans (b1.mono (by simp))
    go_wp2
    go_ret
    exact ⟨rfl, bw⟩
set_option maxRecDepth 100000 in
theorem spares_no (w : World) (n : Ind) (l : List Ext) (a : Option Addr) (c : Nat) (x : Option Addr) (d : Nat) (hi : n.in_) (hra : RdX w a n.dir) (hrx : RdX w x l) (ho : okX l) (hl : l.length ≤ 300) (hd : n.dir.length ≤ 300) (h : errInd n ≠ 0 ∨ errL l ≠ 0) :
    Calls Try.prog 8 #[n.val a c, .slice x l.length d] w fun e w' => e = .returned (.bool true) ∧ Below w.heap.size w w' := by
  have I1 := fun w h => PutInode_any w n a c hi h
  have N1 := fun w h => PutNode_any w x d l.length l rfl (by omega) h ho
  have hE : errInd n = 0 ∨ errInd n = 2 := by unfold errInd; split <;> simp
  have hF : errL l = 0 ∨ errL l = 2 := by unfold errL; split <;> simp
  have AW := fun w => awake03_any w
  have hp : (putInd n).length ≤ 64 := by
    unfold putInd
    split
    · rename_i hok
      rw [indB_length (okInd_len hok)]
      decide
    · simp
  generalize putInd n = PA at I1
  generalize errInd n = EI at *
  generalize putL l = PB at N1
  generalize errL l = EL at *
  obtain ⟨k, ln, sz, nd, dir⟩ := n
  simp only [Ind.val, indCells] at *
  clear hi ho hp
  have HX := hid hrx; have HA := hid hra
  clear hrx hra
  rcases hE with rfl | rfl <;> rcases hF with rfl | rfl
  · simp at h
  all_goals
    clear h
    go_enter Try.func8, Try.ntmps8
    go_wp2_with fail
    refine (I1 _ (HA.out.below ((Below.refl _ _).alloc (Nat.le_refl _) _))).mono ?_
    rintro e w1 ⟨A1, c1, rfl, _, b1⟩
    have bw1 := ((Below.refl w.heap.size w).alloc (Nat.le_refl _) _).trans (b1.mono (by simp))
    clear b1
    go_wp2_with fail
    refine (N1 _ (HX.out.below bw1)).mono ?_
    rintro e w2 ⟨A2, c2, rfl, _, b2⟩
    have bw2 := bw1.trans (b2.mono bw1.size)
    go_wp2_with fail
    refine (AW _).mono ?_
    rintro e w3 ⟨rfl, b3⟩
    go_wp2
    go_ret
    exact ⟨rfl, bw2.trans (b3.mono bw2.size)⟩
set_option maxRecDepth 100000 in
theorem spares_ok (w : World) (n : Ind) (l : List Ext) (a : Option Addr) (c : Nat) (x : Option Addr) (d : Nat) (hi : n.in_) (hra : RdX w a n.dir) (hrx : RdX w x l) (ho : okX l) (hok : okInd n = true) (hol : okL l = true) (hl : l.length ≤ 250) (hd : n.dir.length ≤ 300) :
    Calls Try.prog 8 #[n.val a c, .slice x l.length d] w fun e w' => e = .returned (.bool true) ∧ Below w.heap.size w w' := by
  have PI := fun w h => PutInode_ok w n a c hi h hok
  have GI := fun w A e h => GetInode_ok w n A e h hok
  have PN := fun w h => PutNode_ok w l x d h ho hol hl
  have GN := fun w A e h => GetNode_ok w l A e h hol hl
  have SI := fun w A e B f h1 h2 => SameInode_nn w n A B e f (by omega) h1 h2
  have SE := fun w A e B f h1 h2 => SameExtents_ll w A B e f l (by omega) h1 h2
  have lI : (indB n).length = 64 := indB_length (okInd_len hok)
  have lN : (nodeB l).length = 4096 := nodeB_length l hl
  generalize indB n = IB at PI GI lI
  generalize nodeB l = NB at PN GN lN
  obtain ⟨k, ln, sz, nd, dir⟩ := n
  simp only [Ind.val, indCells] at *
  have hl3 : l.length ≤ 300 := by omega
  clear hi ho hok hol
  have HI := hid lI; have HN := hid lN
  clear lI lN
  have HX := hid hrx; have HA := hid hra
  clear hrx hra
  go_enter Try.func8, Try.ntmps8
  go_wp2_with fail
  refine (PI _ (HA.out.below ((Below.refl _ _).alloc (Nat.le_refl _) _))).mono ?_
  rintro e w1 ⟨A1, c1, rfl, ga, b1⟩
  obtain ⟨g1, rfl, _, _, _⟩ := ga.at_ (by intro e; have := HI.out; rw [e] at this; simp at this)
  have l1 := hid ga.lt
  have rn := hid (keptN b1)
  have bw1 := ((Below.refl w.heap.size w).alloc (Nat.le_refl _) _).trans (b1.mono (by simp))
  clear b1
  go_wp2_with fail
  refine (PN _ (HX.out.below bw1)).mono ?_
  rintro e w2 ⟨A2, c2, rfl, gb, b2⟩
  obtain ⟨g2, rfl, _, _, _⟩ := gb.at_ (by intro e; have := HN.out; rw [e] at this; simp at this)
  have l2 := hid gb.lt
  have s2 := hid b2.size
  have bw2 := bw1.trans (b2.mono bw1.size)
  replace rn := hid (kept1 b2 rn.out)
  replace ga := ga.below b2
  clear b2
  obtain ⟨f0, f1, f2, f3, f4⟩ := five rn.out
  go_wp2_with fail
  refine (PI _ (HA.out.below bw2)).mono ?_
  rintro e w3 ⟨A3, c3, rfl, gc, b3⟩
  obtain ⟨g3, rfl, _, _, _⟩ := gc.at_ (by intro e; have := HI.out; rw [e] at this; simp at this)
  have l3 := hid gc.lt
  have s3 := hid b3.size
  have bw3 := bw2.trans (b3.mono bw2.size)
  replace rn := hid (kept1 b3 rn.out)
  replace ga := ga.below b3
  replace gb := gb.below b3
  clear b3 f0 f1 f2 f3 f4
  go_wp2_with fail
  refine (GN _ _ _ gb.rd).mono ?_
  rintro e w4 ⟨A4, c4, rfl, gx, b4⟩
  have x4 := hid (own_in gx)
  have s4 := hid b4.size
  have bw4 := bw3.trans (b4.mono bw3.size)
  replace rn := hid (kept1 b4 rn.out)
  replace ga := ga.below b4
  replace gb := gb.below b4
  replace gc := gc.below b4
  clear b4
  go_wp2_with fail
  refine (GN _ _ _ gb.rd).mono ?_
  rintro e w5 ⟨A5, c5, rfl, gy, b5⟩
  have s5 := hid b5.size
  have bw5 := bw4.trans (b5.mono bw4.size)
  replace rn := hid (kept1 b5 rn.out)
  replace ga := ga.below b5
  replace gb := gb.below b5
  replace gc := gc.below b5
  replace gx := gx.below b5
  clear b5
  go_wp2_with fail
  refine (GI _ _ _ ga.rd).mono ?_
  rintro e w6 ⟨A6, c6, rfl, gm, b6⟩
  have s6 := hid b6.size
  have bw6 := bw5.trans (b6.mono bw5.size)
  replace rn := hid (kept1 b6 rn.out)
  replace ga := ga.below b6
  replace gb := gb.below b6
  replace gc := gc.below b6
  replace gx := gx.below b6
  replace gy := gy.below b6
  clear b6
  go_wp2_with fail
  obtain ⟨v, hv⟩ : ∃ v, v = (w6.alloc (.cells #[.int .u8 k, .int .i64 ln, .int .i64 sz, .slice A6 dir.length c6, .int .i64 nd] 27)).alloc (.cells #[.slice (some ⟨g1, 0, none⟩) 64 c1, .slice (some ⟨g2, 0, none⟩) 4096 c2, .slice (some ⟨g3, 0, none⟩) 64 c3] 31) := ⟨_, rfl⟩
  have bv : Below w6.heap.size w6 v := by rw [hv]; exact ((Below.refl _ _).alloc (Nat.le_refl _) _).alloc (by simp) _
  have rl := row3 (show v.heap[w6.heap.size + 1]? = some (.cells #[.slice (some ⟨g1, 0, none⟩) 64 c1, .slice (some ⟨g2, 0, none⟩) 4096 c2, .slice (some ⟨g3, 0, none⟩) 64 c3] 31 (0, 0)) by rw [hv]; exact row_two _ _ _)
  have rm := hid (show v.heap[w6.heap.size]? = some (.cells #[.int .u8 k, .int .i64 ln, .int .i64 sz, .slice A6 dir.length c6, .int .i64 nd] 27 (0, 0)) by rw [hv]; exact (heap_alloc_old _ _ (by simp)).trans (heap_alloc_new w6 _))
  rw [← hv]
  clear hv
  have hl1 := l1.out; have hl2 := l2.out; have hl3 := l3.out
  have hs2 := s2.out; have hs3 := s3.out; have hs4 := s4.out; have hs5 := s5.out; have hs6 := s6.out
  have hw0 := bw1.size
  simp at hl1
  have bwv := bw6.trans (bv.mono bw6.size)
  refine (ApartBytes_any v (w.heap.size + 1) (w6.heap.size + 1) 3 3 (gs3 g1 g2 g3) (gs3 c1 c2 c3) (gs3 64 4096 64) (fun k => if k = 0 then IB else if k = 1 then NB else IB) (by decide) rl
    (by
      intro j hj
      rcases j with _ | _ | _ | j
      · exact ⟨(ga.below bv).mono (by simp), HI.out⟩
      · exact ⟨(gb.below bv).mono (by omega), HN.out⟩
      · exact ⟨(gc.below bv).mono (by omega), HI.out⟩
      · omega)
    (by
      intro i j hi hj hij
      rcases i with _ | _ | _ | i <;> rcases j with _ | _ | _ | j <;> simp [gs3] at * <;> omega)
    (by
      intro j hj
      rcases j with _ | _ | _ | j <;> simp [gs3] <;> omega)
    (by
      intro j hj
      rcases j with _ | _ | _ | j <;> simp [gs3])
    (by have := bv.size; omega)).mono ?_
  rintro e w7 ⟨rfl, k7⟩
  have hS : ∀ b, (∃ k, k < 3 ∧ gs3 g1 g2 g3 k = b) → w.heap.size < b ∧ b < w3.heap.size := by
    rintro b ⟨j, hj, rfl⟩
    rcases j with _ | _ | _ | j <;> simp [gs3] <;> omega
  have bw7 := kpt_below bwv k7 bwv.size (fun j hj h => by have := hS j h; omega)
  have rn7 := (k7.block _ (by have := bwv.size; have := heap_in rn.out; have := bv.size; omega) (fun h => by have := hS _ h; omega)).trans ((bv.block _ (heap_in rn.out)).trans rn.out)
  have rm7 := (k7.block _ (heap_in rm.out) (fun h => by have := hS _ h; omega)).trans rm.out
  have gx7 := own_kpt (gx.below bv) k7 (fun b hb h => by have := hS b h; omega)
  have gy7 := own_kpt (gy.below bv) k7 (fun b hb h => by have := hS b h; omega)
  have gm7 := own_kpt (own_below gm bv) k7 (fun b hb h => by have := hS b h; omega)
  clear hl1 hl2 hl3 hs2 hs3 hs4 hs5 hs6 hw0 rl k7 hS bwv bv bw6 rn rm gm gx gy ga gb gc
  go_wp2_with fail
  refine (SE w7 _ _ _ _ (RdV.own gx7) (RdV.own gy7)).mono ?_
  rintro e w8 ⟨rfl, b8⟩
  have bw8 := bw7.trans (b8.mono bw7.size)
  have gx8 := own_below gx7 b8
  have gy8 := own_below gy7 b8
  have gm8 := own_below gm7 b8
  obtain ⟨f0, f1, f2, f3, f4⟩ := five (kept1 b8 rn7)
  obtain ⟨e0, e1, e2, e3, e4⟩ := five (kept1 b8 rm7)
  clear rn7 rm7 gx7 gy7 gm7 b8
  go_wp2_with fail
  refine (SI w8 _ _ _ _ (RdV.own gm8) (HA.out.below bw8)).mono ?_
  rintro e w9 ⟨rfl, b9⟩
  have bw9 := bw8.trans (b9.mono bw8.size)
  have gx9 := own_below gx8 b9
  have gy9 := own_below gy8 b9
  clear gx8 gy8 gm8 b9 f0 f1 f2 f3 f4 e0 e1 e2 e3 e4
  go_wp2_with fail
  go_loopw [17] (fun i wr => ∃ (q : Nat) (vs : List Value), q ≤ l.length ∧ i = .int .i64 q ∧ wr.ownsRow w3.heap.size 56 3 (.slice A4 l.length c4) l.length vs ∧ Kpt (fun b => ∃ o, A4 = some ⟨b, o, none⟩) w9 wr) (fun i _ => l.length - (intOf i).toNat)
  case atStart => exact ⟨0, _, by omega, rfl, gx9, Kpt.refl _ _⟩
  case round =>
    obtain ⟨q, vs, hq, rfl, hO, kq⟩ := hrel
    by_cases hlt : q < l.length
    · rcases hO.2 with ⟨hv, h0⟩ | ⟨g4, cap, cur, hv, hb4, hg4, hnc, hcm, hcs, htake⟩
      · omega
      · simp only [Value.slice.injEq, true_and] at hv
        obtain ⟨rfl, rfl⟩ := hv
        obtain ⟨u, hu⟩ : ∃ u, wr.cell? ⟨g4, q * 3, none⟩ = some u := ⟨cur[q * 3]'(by omega), by rw [cell_of_row _ _ _ _ _ _ hg4]; exact Array.getElem?_eq_getElem (by omega)⟩
        have fz := free_of_rowA hg4 (q * 3)
        clear hg4 hcs htake hnc hcm
        go_wp2_with fail
        go_roundw
        case rel => exact ⟨q + 1, _, by omega, by go_num, (World.ownsRow.stored hO (q * 3) _).1, kq.trans (kpt_set (S := fun b => ∃ o, some (⟨g4, 0, none⟩ : Addr) = some ⟨b, o, none⟩) wr g4 (q * 3) _ ⟨0, rfl⟩)⟩
        case measure => simp [intOf]; omega
    · obtain rfl : q = l.length := by omega
      have hw3 := bw3.size
      have gyr := own_kpt gy9 kq (fun b hb ⟨o, ho⟩ => by have := x4.out b o ho; omega)
      have bwr := kpt_below bw9 kq bw9.size (fun j hj ⟨o, ho⟩ => by have := x4.out j o ho; omega)
      clear hw3 gx9 gy9 kq hO
      go_wp2_with fail
      refine (SE _ _ _ _ _ (RdV.own gyr) (HX.out.below bwr)).mono ?_
      rintro e w10 ⟨rfl, b10⟩
      have bw10 := bwr.trans (b10.mono bwr.size)
      go_wp2_with fail
      refine (awake03_any _).mono ?_
      rintro e w11 ⟨rfl, b11⟩
      go_wp2
      go_ret
      exact ⟨rfl, bw10.trans (b11.mono bw10.size)⟩
theorem okL_len {l : List Ext} (h : okL l = true) : l.length ≤ 250 := by
  unfold okL at h
  simp at h
  omega
theorem SuperSpares_any (w : World) (n : Ind) (l : List Ext) (a : Option Addr) (c : Nat) (x : Option Addr) (d : Nat) (hi : n.in_) (hra : RdX w a n.dir) (hrx : RdX w x l) (hl : l.length ≤ 7000000000000) (ho : okX l) :
    Calls Try.prog 8 #[n.val a c, .slice x l.length d] w fun e w' => e = .returned (.bool true) ∧ Below w.heap.size w w' := by
  by_cases h : 300 < l.length ∨ 300 < n.dir.length
  · exact spares_long w n l a c x d hl hi.2.2.2.2.1 h
  · by_cases hok : okInd n = true
    · by_cases hol : okL l = true
      · exact spares_ok w n l a c x d hi hra hrx ho hok hol (okL_len hol) (by omega)
      · exact spares_no w n l a c x d hi hra hrx ho (by omega) (by omega) (.inr (by rw [errL, if_neg hol]; decide))
    · exact spares_no w n l a c x d hi hra hrx ho (by omega) (by omega) (.inl (by rw [errInd, if_neg hok]; decide))
end Go.Proofs.Ytjblpejekcbokaa
