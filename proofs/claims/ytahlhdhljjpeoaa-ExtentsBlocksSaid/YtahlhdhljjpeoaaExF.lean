/- extents.Add: what joins; all ways (printed by gen25d.py). -/
import Derived.Test.YtahlhdhljjpeoaaExE
namespace Go.Proofs.Ytahlhdhljjpeoaa
open Go.RowKit
set_option maxHeartbeats 3200000
set_option maxRecDepth 100000
set_option linter.unusedVariables false
set_option linter.unusedSimpArgs false

set_option linter.unusedVariables false in
theorem Add_JE (w : World) (a : Option Addr) (c N : Nat) (x : Ext) (y : Ext) (t : List Ext) (hj1 : joinsX x y = true) (hN : N = (([] : List Ext) ++ y :: t).length) (hl : N ≤ 999990) (hr : RdX w a (([] : List Ext) ++ y :: t)) (hol : okX (([] : List Ext) ++ y :: t)) (hox : x.ok) (hrl : rightX (([] : List Ext) ++ y :: t) = true) (hrx : rightX [x] = true) (hI : insI x (([] : List Ext) ++ y :: t) = ([] : List Ext).length) (hro2 : rightX (([] : List Ext) ++ x :: y :: t) = true) :
    Calls Try.prog 13 #[.slice a N c, x.val] w fun e w' => ∃ A' c', e = .returned (.tuple #[.slice A' (([] : List Ext) ++ (merge x y) :: t).length c', .int .i64 0]) ∧ OwnX w.heap.size w' A' c' (([] : List Ext) ++ (merge x y) :: t) ∧ Below w.heap.size w w' := by
  have hlen0 : (([] : List Ext) ++ x :: y :: t).length = N + 1 := by rw [hN]; simp <;> omega
  have hok2 : okX (([] : List Ext) ++ x :: y :: t) := okX_mem.2 (by
    intro q hq
    have hol' := okX_mem.1 hol
    simp only [List.mem_append, List.mem_cons] at hq hol'
    rcases hq with hq | hq | hq
    · exact hol' q (.inl hq)
    · rw [hq]; exact hox
    · exact hol' q (.inr hq))
  obtain ⟨I, hIe⟩ : ∃ I, I = ([] : List Ext).length := ⟨_, rfl⟩
  have hIN : I < N := by rw [hIe, hN]; simp
  rw [← hIe] at hI
  have hx0 : xat (([] : List Ext) ++ x :: y :: t) I = x := xat_mid _ _ _ _ hIe
  have hx1 : xat (([] : List Ext) ++ x :: y :: t) (I + 1) = y := xat_mid1 _ _ _ _ _ hIe
  have hnx := rf_at hro2 I (by rw [hlen0]; omega)
  rw [hx0] at hnx
  have hny := rf_at hro2 (I + 1) (by rw [hlen0]; omega)
  rw [hx1] at hny
  have htk : (([] : List Ext) ++ y :: t).take I = ([] : List Ext) := by rw [hIe]; exact List.take_left
  have hdr : (([] : List Ext) ++ y :: t).drop I = y :: t := by rw [hIe]; exact List.drop_left
  have hset : (([] : List Ext) ++ x :: y :: t).set I (merge x y) = ([] : List Ext) ++ merge x y :: y :: t := set_mid _ _ _ _ _ hIe
  have hcut : (([] : List Ext) ++ merge x y :: y :: t).take (I + 1) ++ (([] : List Ext) ++ merge x y :: y :: t).drop (I + 1 + 1) = ([] : List Ext) ++ merge x y :: t := cut_mid _ _ _ _ _ hIe
  have hlm : (([] : List Ext) ++ merge x y :: y :: t).length = N + 1 := by rw [hN]; simp <;> omega
  have hres : (([] : List Ext) ++ (merge x y) :: t).length = N := by rw [hN]; simp <;> omega
  rw [hres]
  generalize hL : (([] : List Ext) ++ y :: t) = l at hN hr hol hrl hI htk hdr
  obtain ⟨xa, xs, xc⟩ := x
  simp only [Ext.val] at *
  have HTK := hid htk; have HDR := hid hdr; have HLEN := hid hlen0; have HOK := hid hok2; have HRO2 := hid hro2; have HX0 := hid hx0
  have HLL := hid hL
  have HX1 := hid hx1; have HIE := hid hIe
  have HJX := hid (show ((0 : Int) ≤ xa ∧ xa ≤ 512) ∧ ((1 : Int) ≤ xs ∧ xs ≤ 512) ∧ ((1 : Int) ≤ xc ∧ xc ≤ 1024) from ⟨hnx.1, hnx.2.1, hnx.2.2.1.1, by have := hnx.2.2.1.2; omega⟩)
  have HCT := hid (show ((1 : Int) ≤ xc ∧ xc ≤ 512) ∧ ((1 : Int) ≤ y.ct ∧ y.ct ≤ 512) from ⟨hnx.2.2.1, hny.2.2.1⟩)
  have HJ1 := hid hj1
  have HSET := hid hset; have HCUT := hid hcut; have HLM := hid hlm
  have HI0 := hid (show I = 0 from hIe)
  clear htk hdr hlen0 hok2 hro2 hx0 hL hres hnx hx1 hIe hny hj1 hset hcut hlm
  have RL := fun W (h : RdX W a l) => Right_any W a c N l hN (by rw [← hN]; omega) h hol
  have RX := fun W (g : Nat) (h : W.heap[g]? = some (.cells #[.int .i64 xa, .int .i64 xs, .int .i64 xc] 24 (0, 0))) => Right_any W (some ⟨g, 0, none⟩) 1 1 [⟨xa, xs, xc⟩] rfl (by simp) (RdX.one h) (okX_mem.2 (by simpa using hox))
  rw [hrl] at RL
  have HN := hid hN
  clear hN
  rw [hrx] at RX
  have hb1 : Below w.heap.size w (w.alloc (.cells #[.int .i64 xa, .int .i64 xs, .int .i64 xc] 24)) := (Below.refl _ _).alloc (Nat.le_refl _) _
  have hro : (w.alloc (.cells #[.int .i64 xa, .int .i64 xs, .int .i64 xc] 24)).heap[w.heap.size]? = some (.cells #[.int .i64 xa, .int .i64 xs, .int .i64 xc] 24 (0, 0)) := heap_alloc_new w _
  have hr1 := hr.below hb1
  have IX := fun W (h : RdX W a l) (hc : W.heap[w.heap.size]? = some (.cells #[.int .i64 xa, .int .i64 xs, .int .i64 xc] 24 (0, 0))) => IndexAdd_any w W w.heap.size a c N l HN.out (by have := HN.out; omega) h ⟨xa, xs, xc⟩ 24 hc
  have hidx : idxV (l.findIdx (fun y => decide ((⟨xa, xs, xc⟩ : Ext).at_ ≤ y.at_))) l.length = (I : Int) := by
    have e : l.findIdx (fun y => decide ((⟨xa, xs, xc⟩ : Ext).at_ ≤ y.at_)) = I := hI
    rw [e, idxV_in (by rw [← HN.out]; exact hIN)]
  rw [hidx] at IX
  have CL := fun W (h : RdX W a l) => CloneX_any W a c N l HN.out (by have := HN.out; omega) h
  have IN := fun W (A : Option Addr) (c' vb vc : Nat) (ho : OwnX (w.heap.size + 1) W A c' l) (hb : w.heap.size + 1 ≤ W.heap.size) (hx : W.heap[vb]? = some (.cells #[.int .i64 xa, .int .i64 xs, .int .i64 xc] 24 (0, 0))) hv => Insert_any (w.heap.size + 1) W A c' N I l HN.out (by omega) (Nat.le_of_lt hIN) ho hb vb vc ⟨xa, xs, xc⟩ hx hv
  have HRO := hid hro; have HI := hid hI; have HR := hid hr; have HR1 := hid hr1
  clear hrl hrx hro hI hidx hr hr1
  go_enter Try.func13, Try.ntmps13
  go_wp2_with fail
  refine (RL _ HR1.out).mono ?_
  rintro e w1 ⟨rfl, b1⟩
  have bb1 := hb1.trans (b1.mono hb1.size)
  have hro1 := below_all b1 HRO.out
  obtain ⟨y0, y1, y2⟩ := cell3 hro1
  obtain ⟨w1a, hw1a⟩ : ∃ v, v = w1.alloc (.cells #[.int .i64 xa, .int .i64 xs, .int .i64 xc] 24) := ⟨_, rfl⟩
  have hn1 : w1a.heap[w1.heap.size]? = some (.cells #[.int .i64 xa, .int .i64 xs, .int .i64 xc] 24 (0, 0)) := by rw [hw1a]; exact heap_alloc_new w1 _
  have b1a : Below w1.heap.size w1 w1a := by rw [hw1a]; exact (Below.refl _ _).alloc (Nat.le_refl _) _
  have HN1 := hid hn1; have HW1A := hid hw1a
  have hro1a := below_all b1a hro1
  have bb1a := bb1.trans (b1a.mono bb1.size)
  clear hn1 hw1a RL hro1 b1a b1 bb1 hb1
  go_wp2_with fail
  rw [← HW1A.out]
  refine (RX _ _ HN1.out).mono ?_
  rintro e w2 ⟨rfl, b2⟩
  have bb2 := bb1a.trans (b2.mono bb1a.size)
  have hro2 := below_all b2 hro1a
  clear RX b2 bb1a hro1a y0 y1 y2
  go_wp2_with fail
  refine (IX _ (HR.out.below bb2) hro2).mono ?_
  rintro e w3 ⟨rfl, b3⟩
  have bb3 := bb2.trans (b3.mono bb2.size)
  have hro3 := below_all b3 hro2
  have hr3 := HR.out.below bb3
  obtain ⟨y0, y1, y2⟩ := cell3 hro3
  have sv : w3.cell? ⟨w.heap.size, 0, none⟩ = some (.int .i64 xa) ∧ w3.cell? ⟨w.heap.size, 1, none⟩ = some (.int .i64 xs) ∧ w3.cell? ⟨w.heap.size, 2, none⟩ = some (.int .i64 xc) := ⟨y0, y1, y2⟩
  have svd : w3.drew.cell? ⟨w.heap.size, 0, none⟩ = some (.int .i64 xa) ∧ w3.drew.cell? ⟨w.heap.size, 1, none⟩ = some (.int .i64 xs) ∧ w3.drew.cell? ⟨w.heap.size, 2, none⟩ = some (.int .i64 xc) := ⟨y0, y1, y2⟩
  have hr3d : RdX w3.drew a l := hr3.below (below_drewN2 (Below.refl _ _) 1)
  have b3d : Below w.heap.size w w3.drew := below_drewN2 bb3 1
  -- the two orders of the new block and the copy
  obtain ⟨v3, hv3⟩ : ∃ v, v = (w3.alloc (.cells #[.int .i64 xa, .int .i64 xs, .int .i64 xc] 24)) := ⟨_, rfl⟩
  have hn3 : v3.drew.heap[w3.heap.size]? = some (.cells #[.int .i64 xa, .int .i64 xs, .int .i64 xc] 24 (0, 0)) := by rw [hv3]; exact heap_alloc_new w3 _
  have b33 : Below w3.heap.size w3 v3.drew := by rw [hv3]; exact below_drewN2 ((Below.refl _ _).alloc (Nat.le_refl _) _) 1
  have hr3a := hr3.below b33
  have hro3a := below_all b33 hro3
  obtain ⟨z0, z1, z2⟩ := cell3 hro3a
  have sva : v3.drew.cell? ⟨w.heap.size, 0, none⟩ = some (.int .i64 xa) ∧ v3.drew.cell? ⟨w.heap.size, 1, none⟩ = some (.int .i64 xs) ∧ v3.drew.cell? ⟨w.heap.size, 2, none⟩ = some (.int .i64 xc) := ⟨z0, z1, z2⟩
  have b3a := bb3.trans (b33.mono bb3.size)
  have hsz3 : v3.drew.heap.size = w3.heap.size + 1 := by rw [hv3]; simp
  rw [hv3] at sva hr3a b3a hn3 hsz3 hro3a
  have HP3 := hid (heap_inX hro3); have HN3 := hid hn3; have HRO3A := hid hro3a; have HV3 := hid hv3; have HRO3 := hid hro3; have HB3 := hid bb3; have HB3A := hid b3a; have HSZ := hid hsz3
  clear hro2 bb2 b3 hro3 hn3 b33 hro3a IX hv3 z0 z1 z2 y0 y1 y2 bb3 b3a hr3 hsz3
  go_upto_region 6 with fail
  go_cut [7] (fun v wx => CutX (w.heap.size + 1) w (N + 1) (l.take I ++ ⟨xa, xs, xc⟩ :: l.drop I) v wx)
  case first =>
    go_region_held3 (fun W1 => W1.cell? ⟨w.heap.size, 0, none⟩ = some (.int .i64 xa) ∧ W1.cell? ⟨w.heap.size, 1, none⟩ = some (.int .i64 xs) ∧ W1.cell? ⟨w.heap.size, 2, none⟩ = some (.int .i64 xc))
      (first | (with_reducible exact s6) | (with_reducible exact s5) | (with_reducible exact s4) | (with_reducible exact svd) | (with_reducible exact sv) | (with_reducible exact sva))
      (first
        | (go_at_call_of 50 (A4); (with_reducible refine IA.out.mono ?_); rintro e w6 ⟨A6, c6, rfl, o6, b6⟩; have s6 := cell3 ((b6.block _ (Nat.lt_succ_self _)).trans HP5.out); have O6 := hid o6; have BB6 := hid (HB5.out.trans (b6.mono (Nat.le_succ _))); clear o6 b6)
        | (go_at_call_of 51 (N); (with_reducible refine (CL _ hr3d).mono ?_); rintro e w4 ⟨A4, c4, rfl, o4, b4⟩; have hp4 := below_all b4 (show w3.drew.heap[w.heap.size]? = some (.cells #[.int .i64 xa, .int .i64 xs, .int .i64 xc] 24 (0, 0)) from HRO3.out); have s4 := cell3 hp4; have ba4 := (Below.refl w4.heap.size w4).alloc (Nat.le_refl _) (.cells #[.int .i64 xa, .int .i64 xs, .int .i64 xc] 24); have HP5 := hid (below_all ba4 hp4); have s5 := cell3 HP5.out; have hb4 := b3d.trans (b4.mono b3d.size); have HB5 := hid (hb4.trans (ba4.mono hb4.size)); have IA := hid (IN (w4.alloc (.cells #[.int .i64 xa, .int .i64 xs, .int .i64 xc] 24)) A4 c4 w4.heap.size 1 ((o4.below ba4).mono (Nat.succ_le_of_lt HP3.out)) (Nat.le_trans (Nat.succ_le_of_lt (heap_inX hp4)) ba4.size) (heap_alloc_new w4 _) (fun g hg => by have := (own_block o4 hg).2; omega)); clear o4 b4 ba4 hp4 hb4)
        | (go_at_call_of 51 (N); (with_reducible refine (CL _ hr3a).mono ?_); rintro e w4 ⟨A4, c4, rfl, o4, b4⟩; have HP5 := hid (below_all b4 HRO3A.out); have s4 := cell3 HP5.out; have HB5 := hid (HB3A.out.trans (b4.mono HB3A.out.size)); have hlt := HP3.out; have hsz4 := HSZ.out; have IA := hid (IN w4 A4 c4 w3.heap.size 1 (o4.mono (by rw [hsz4]; omega)) (Nat.succ_le_of_lt (heap_inX HP5.out)) (below_all b4 HN3.out) (fun g hg => by have := (own_block o4 hg).1; omega)); clear o4 b4 hlt hsz4))
    all_goals (go_wp2_with fail; go_meet; exact ⟨_, _, rfl, O6.out, BB6.out⟩)
  case rest =>
    clear sv svd sva hr3d hr3a b3d CL IN
    obtain ⟨A6, c6, rfl, o6, bb6⟩ := hcut
    rw [HTK.out, HDR.out] at o6
    obtain ⟨g6, rfl, hg6⟩ := own_some o6 (by rw [HLEN.out]; exact Nat.succ_pos _)
    have RO := Right_any wc (some ⟨g6, 0, none⟩) c6 (N + 1) _ HLEN.out.symm (by rw [HLEN.out]; omega) o6.rd HOK.out
    rw [HRO2.out] at RO
    have O := hid o6
    have BB := hid bb6
    obtain ⟨w6, hw6⟩ : ∃ w6, w6 = wc := ⟨_, rfl⟩
    clear o6 bb6
    go_wp2_with fail
    refine RO.mono ?_
    rintro e w7 ⟨rfl, b7⟩
    have o7 := O.out.below b7
    have bb7 := BB.out.trans (b7.mono BB.out.size)
    have O7 := hid o7; have BB7 := hid bb7
    clear RO b7
    have q0 := o7.at3 I (by rw [HLEN.out]; omega)
    have q1 := o7.at3 (I + 1) (by rw [HLEN.out]; omega)
    rw [HX0.out] at q0
    rw [HX1.out] at q1
    try simp only at q0
    obtain ⟨p0, p1, p2, p3⟩ := q0
    obtain ⟨r0, r1, r2, r3⟩ := q1
    have hs1 : decide ((I : Int) + 1 < (N : Int) + 1) = true := decide_eq_true (by omega)
    have hs2 : IntKind.i64.wrap ((I : Int) + 1) = (I : Int) + 1 := IntWalk.i64_in _ (by omega)
    have hs3 : ((I : Int) + 1).toNat = I + 1 := by omega
    have hs4 : (0 : Int) ≤ (I : Int) + 1 := by omega
    have hs5 : (I : Int) < (N : Int) + 1 := by omega
    have hs6 : (I : Int) + 1 < (N : Int) + 1 := by omega
    have hs7 : (0 : Int) ≤ (I : Int) := by omega
    have sw : w7.cell? ⟨g6, I * 3, none⟩ = some (.int .i64 xa) ∧ w7.cell? ⟨g6, I * 3 + 1, none⟩ = some (.int .i64 xs) ∧ w7.cell? ⟨g6, I * 3 + 2, none⟩ = some (.int .i64 xc) ∧ w7.cell? ⟨g6, (I + 1) * 3, none⟩ = some (.int .i64 y.at_) ∧ w7.cell? ⟨g6, (I + 1) * 3 + 1, none⟩ = some (.int .i64 y.st) ∧ w7.cell? ⟨g6, (I + 1) * 3 + 2, none⟩ = some (.int .i64 y.ct) := ⟨p0, p1, p2, r0, r1, r2⟩
    have swd : w7.drew.cell? ⟨g6, I * 3, none⟩ = some (.int .i64 xa) ∧ w7.drew.cell? ⟨g6, I * 3 + 1, none⟩ = some (.int .i64 xs) ∧ w7.drew.cell? ⟨g6, I * 3 + 2, none⟩ = some (.int .i64 xc) ∧ w7.drew.cell? ⟨g6, (I + 1) * 3, none⟩ = some (.int .i64 y.at_) ∧ w7.drew.cell? ⟨g6, (I + 1) * 3 + 1, none⟩ = some (.int .i64 y.st) ∧ w7.drew.cell? ⟨g6, (I + 1) * 3 + 2, none⟩ = some (.int .i64 y.ct) := ⟨p0, p1, p2, r0, r1, r2⟩
    have JO := fun W => joins_any W ⟨xa, xs, xc⟩ y HJX.out
    rw [HJ1.out] at JO
    unfold Ext.val at JO
    simp only at JO
    have hbd : Below w7.heap.size w7 w7.drew := below_drewN2 (Below.refl _ _) 1
    clear o7 bb7
    go_wp2_with fail
    go_region_held3 (fun W1 => W1.cell? ⟨g6, I * 3, none⟩ = some (.int .i64 xa) ∧ W1.cell? ⟨g6, I * 3 + 1, none⟩ = some (.int .i64 xs) ∧ W1.cell? ⟨g6, I * 3 + 2, none⟩ = some (.int .i64 xc) ∧ W1.cell? ⟨g6, (I + 1) * 3, none⟩ = some (.int .i64 y.at_) ∧ W1.cell? ⟨g6, (I + 1) * 3 + 1, none⟩ = some (.int .i64 y.st) ∧ W1.cell? ⟨g6, (I + 1) * 3 + 2, none⟩ = some (.int .i64 y.ct))
      (first | (with_reducible exact sw8) | (with_reducible exact swd) | (with_reducible exact sw))
      (first
        | (go_at_call 52; (with_reducible refine (JO _).mono ?_); rintro e w8 ⟨rfl, b8⟩; have B8 := hid (hbd.trans (b8.mono hbd.size)); have o8q := O7.out.below B8.out; have q8 := o8q.at3 I (by rw [HLEN.out]; omega); have q9 := o8q.at3 (I + 1) (by rw [HLEN.out]; omega); rw [HX0.out] at q8; rw [HX1.out] at q9; simp only at q8; have sw8 := six_of q8 q9; have O8 := hid o8q; have BB8 := hid (BB7.out.trans (B8.out.mono BB7.out.size)); clear o8q q8 q9 b8))
    clear sw swd p0 p1 p2 p3 r0 r1 r2 r3 O7 BB7
    have q0 := O8.out.at3 I (by rw [HLEN.out]; omega)
    have q1 := O8.out.at3 (I + 1) (by rw [HLEN.out]; omega)
    rw [HX0.out] at q0
    rw [HX1.out] at q1
    try simp only at q0
    obtain ⟨p0, p1, p2, p3⟩ := q0
    obtain ⟨r0, r1, r2, r3⟩ := q1
    obtain ⟨hx1, hx2⟩ := HCT.out
    have hs8 : IntKind.i64.wrap (xc + y.ct) = xc + y.ct := IntWalk.i64_in _ (by omega)
    clear sw8 hs1
    have p3d : w8.drew.frozen? ⟨g6, I * 3 + 2, none⟩ = false := p3
    have o9 := (O8.out.setct I (merge ⟨xa, xs, xc⟩ y) (by rw [HLEN.out]; omega) (by rw [HX0.out]; rfl) (by rw [HX0.out]; rfl)).below (below_drewN2 (Below.refl _ _) 1)
    have bb9 := below_drewN2 (below_set (o := I * 3 + 2) BB8.out (Nat.le_trans (Nat.le_succ _) hg6) (.int .i64 (xc + y.ct))) 1
    rw [HSET.out] at o9
    have HO9 := hid o9; have HB9 := hid bb9
    clear o9 bb9
    go_upto_region 10 with fail
    go_cut [] (fun wx => StX (w.heap.size + 1) w g6 c6 (([] : List Ext) ++ merge ⟨xa, xs, xc⟩ y :: y :: t) wx)
    case first =>
      go_region_law (fail)
      all_goals (go_wp2_with fail; go_meet; exact ⟨HO9.out, HB9.out⟩)
    case rest =>
    clear HO9 HB9
    obtain ⟨O9q, BB9q⟩ := hcut
    obtain ⟨w9, hw9⟩ : ∃ w9, w9 = wc := ⟨_, rfl⟩
    rw [← hw9] at O9q BB9q ⊢
    have DL := Delete_any (w.heap.size + 1) w9 g6 c6 (N + 1) (I + 1) _ HLM.out.symm (by omega) (by omega) O9q
    rw [show ((I + 1 : Nat) : Int) = (I : Int) + 1 by omega, show (I : Int) + 1 + 1 = (I : Int) + 2 by omega, Nat.add_sub_cancel, HCUT.out] at DL
    have HW9 := hid hw9; have BB9Q := hid BB9q
    clear hw9 O9q BB9q O8 BB8 p0 p1 p2 p3 p3d r0 r1 r2 r3 hs8 hs2 hs3 hs4 hs5 hs6 hs7
    go_wp2_with fail
    refine DL.mono ?_
    rintro e wa ⟨rfl, oa, ba⟩
    have BBA := hid (BB9Q.out.trans (ba.mono (Nat.le_succ _)))
    have OA := hid oa
    clear DL oa ba HW9 BB9Q
    obtain ⟨w9, hw9⟩ : ∃ w9, w9 = wa := ⟨_, rfl⟩
    have O9 := OA; have BB9 := BBA
    rw [← hw9] at O9 BB9 ⊢
    have HW9 := hid hw9
    clear hw9 OA BBA
    have hs1 : decide ((0 : Int) < (I : Int)) = false := decide_eq_false (by have := HI0.out; omega)
    have hs1' : decide (0 < I) = false := decide_eq_false (by have := HI0.out; omega)
    go_wp2_with fail
    go_quiet (fail)
    go_wp2
    go_ret2
    exact ⟨_, _, rfl, (O9.out.below (below_drewN2 (Below.refl _ _) _)).mono (Nat.le_succ _), below_drewN2 BB9.out _⟩

set_option linter.unusedVariables false in
theorem Add_JN (w : World) (a : Option Addr) (c N : Nat) (x : Ext) (y : Ext) (t : List Ext) (b : Ext) (k : List Ext) (hj1 : joinsX x y = true) (hj2 : joinsX b (merge x y) = false) (hN : N = ((k ++ [b]) ++ y :: t).length) (hl : N ≤ 999990) (hr : RdX w a ((k ++ [b]) ++ y :: t)) (hol : okX ((k ++ [b]) ++ y :: t)) (hox : x.ok) (hrl : rightX ((k ++ [b]) ++ y :: t) = true) (hrx : rightX [x] = true) (hI : insI x ((k ++ [b]) ++ y :: t) = (k ++ [b]).length) (hro2 : rightX ((k ++ [b]) ++ x :: y :: t) = true) :
    Calls Try.prog 13 #[.slice a N c, x.val] w fun e w' => ∃ A' c', e = .returned (.tuple #[.slice A' (k ++ [b] ++ (merge x y) :: t).length c', .int .i64 0]) ∧ OwnX w.heap.size w' A' c' (k ++ [b] ++ (merge x y) :: t) ∧ Below w.heap.size w w' := by
  have hlen0 : ((k ++ [b]) ++ x :: y :: t).length = N + 1 := by rw [hN]; simp <;> omega
  have hok2 : okX ((k ++ [b]) ++ x :: y :: t) := okX_mem.2 (by
    intro q hq
    have hol' := okX_mem.1 hol
    simp only [List.mem_append, List.mem_cons] at hq hol'
    rcases hq with hq | hq | hq
    · exact hol' q (.inl hq)
    · rw [hq]; exact hox
    · exact hol' q (.inr hq))
  obtain ⟨I, hIe⟩ : ∃ I, I = (k ++ [b]).length := ⟨_, rfl⟩
  have hIN : I < N := by rw [hIe, hN]; simp
  rw [← hIe] at hI
  have hx0 : xat ((k ++ [b]) ++ x :: y :: t) I = x := xat_mid _ _ _ _ hIe
  have hx1 : xat ((k ++ [b]) ++ x :: y :: t) (I + 1) = y := xat_mid1 _ _ _ _ _ hIe
  have hnx := rf_at hro2 I (by rw [hlen0]; omega)
  rw [hx0] at hnx
  have hny := rf_at hro2 (I + 1) (by rw [hlen0]; omega)
  rw [hx1] at hny
  have htk : ((k ++ [b]) ++ y :: t).take I = (k ++ [b]) := by rw [hIe]; exact List.take_left
  have hdr : ((k ++ [b]) ++ y :: t).drop I = y :: t := by rw [hIe]; exact List.drop_left
  have hset : ((k ++ [b]) ++ x :: y :: t).set I (merge x y) = (k ++ [b]) ++ merge x y :: y :: t := set_mid _ _ _ _ _ hIe
  have hcut : ((k ++ [b]) ++ merge x y :: y :: t).take (I + 1) ++ ((k ++ [b]) ++ merge x y :: y :: t).drop (I + 1 + 1) = (k ++ [b]) ++ merge x y :: t := cut_mid _ _ _ _ _ hIe
  have hlm : ((k ++ [b]) ++ merge x y :: y :: t).length = N + 1 := by rw [hN]; simp <;> omega
  obtain ⟨J, hJe⟩ : ∃ J, J = k.length := ⟨_, rfl⟩
  have hIJ : I = J + 1 := by rw [hIe, hJe]; simp
  have hsp : (k ++ [b]) ++ (merge x y) :: t = k ++ b :: (merge x y) :: t := by simp
  have hl2 : ((k ++ [b]) ++ (merge x y) :: t).length = N := by rw [hN]; simp <;> omega
  have hz0 : xat ((k ++ [b]) ++ (merge x y) :: t) J = b := by rw [hsp]; exact xat_mid _ _ _ _ hJe
  have hz1 : xat ((k ++ [b]) ++ (merge x y) :: t) I = (merge x y) := xat_mid _ _ _ _ hIe
  have hnb := rf_at hro2 J (by rw [hlen0]; omega)
  have hb0 : xat ((k ++ [b]) ++ x :: y :: t) J = b := by
    have e : (k ++ [b]) ++ x :: y :: t = k ++ b :: x :: y :: t := by simp
    rw [e]; exact xat_mid _ _ _ _ hJe
  rw [hb0] at hnb
  have hres : (k ++ [b] ++ (merge x y) :: t).length = N := by rw [hN]; simp <;> omega
  rw [hres]
  generalize hL : ((k ++ [b]) ++ y :: t) = l at hN hr hol hrl hI htk hdr
  obtain ⟨xa, xs, xc⟩ := x
  simp only [Ext.val] at *
  have HTK := hid htk; have HDR := hid hdr; have HLEN := hid hlen0; have HOK := hid hok2; have HRO2 := hid hro2; have HX0 := hid hx0
  have HLL := hid hL
  have HX1 := hid hx1; have HIE := hid hIe
  have HJX := hid (show ((0 : Int) ≤ xa ∧ xa ≤ 512) ∧ ((1 : Int) ≤ xs ∧ xs ≤ 512) ∧ ((1 : Int) ≤ xc ∧ xc ≤ 1024) from ⟨hnx.1, hnx.2.1, hnx.2.2.1.1, by have := hnx.2.2.1.2; omega⟩)
  have HCT := hid (show ((1 : Int) ≤ xc ∧ xc ≤ 512) ∧ ((1 : Int) ≤ y.ct ∧ y.ct ≤ 512) from ⟨hnx.2.2.1, hny.2.2.1⟩)
  have HJ1 := hid hj1
  have HSET := hid hset; have HCUT := hid hcut; have HLM := hid hlm
  have HIJ := hid hIJ; have HL2 := hid hl2; have HZ0 := hid hz0; have HZ1 := hid hz1; have HJ2 := hid hj2; have HJE := hid hJe
  have HJB := hid (show (0 ≤ b.at_ ∧ b.at_ ≤ 512) ∧ (1 ≤ b.st ∧ b.st ≤ 512) ∧ (1 ≤ b.ct ∧ b.ct ≤ 1024) from ⟨hnb.1, hnb.2.1, hnb.2.2.1.1, by have := hnb.2.2.1.2; omega⟩)
  have HCB := hid (show ((1 : Int) ≤ b.ct ∧ b.ct ≤ 512) ∧ ((0 : Int) ≤ xc + y.ct ∧ xc + y.ct ≤ 2000) from ⟨hnb.2.2.1, by have := hnx.2.2.1; have := hny.2.2.1; omega⟩)
  clear htk hdr hlen0 hok2 hro2 hx0 hL hres hnx hx1 hIe hny hj1 hset hcut hlm hIJ hl2 hz0 hz1 hj2 hJe hnb hsp hb0
  have RL := fun W (h : RdX W a l) => Right_any W a c N l hN (by rw [← hN]; omega) h hol
  have RX := fun W (g : Nat) (h : W.heap[g]? = some (.cells #[.int .i64 xa, .int .i64 xs, .int .i64 xc] 24 (0, 0))) => Right_any W (some ⟨g, 0, none⟩) 1 1 [⟨xa, xs, xc⟩] rfl (by simp) (RdX.one h) (okX_mem.2 (by simpa using hox))
  rw [hrl] at RL
  have HN := hid hN
  clear hN
  rw [hrx] at RX
  have hb1 : Below w.heap.size w (w.alloc (.cells #[.int .i64 xa, .int .i64 xs, .int .i64 xc] 24)) := (Below.refl _ _).alloc (Nat.le_refl _) _
  have hro : (w.alloc (.cells #[.int .i64 xa, .int .i64 xs, .int .i64 xc] 24)).heap[w.heap.size]? = some (.cells #[.int .i64 xa, .int .i64 xs, .int .i64 xc] 24 (0, 0)) := heap_alloc_new w _
  have hr1 := hr.below hb1
  have IX := fun W (h : RdX W a l) (hc : W.heap[w.heap.size]? = some (.cells #[.int .i64 xa, .int .i64 xs, .int .i64 xc] 24 (0, 0))) => IndexAdd_any w W w.heap.size a c N l HN.out (by have := HN.out; omega) h ⟨xa, xs, xc⟩ 24 hc
  have hidx : idxV (l.findIdx (fun y => decide ((⟨xa, xs, xc⟩ : Ext).at_ ≤ y.at_))) l.length = (I : Int) := by
    have e : l.findIdx (fun y => decide ((⟨xa, xs, xc⟩ : Ext).at_ ≤ y.at_)) = I := hI
    rw [e, idxV_in (by rw [← HN.out]; exact hIN)]
  rw [hidx] at IX
  have CL := fun W (h : RdX W a l) => CloneX_any W a c N l HN.out (by have := HN.out; omega) h
  have IN := fun W (A : Option Addr) (c' vb vc : Nat) (ho : OwnX (w.heap.size + 1) W A c' l) (hb : w.heap.size + 1 ≤ W.heap.size) (hx : W.heap[vb]? = some (.cells #[.int .i64 xa, .int .i64 xs, .int .i64 xc] 24 (0, 0))) hv => Insert_any (w.heap.size + 1) W A c' N I l HN.out (by omega) (Nat.le_of_lt hIN) ho hb vb vc ⟨xa, xs, xc⟩ hx hv
  have HRO := hid hro; have HI := hid hI; have HR := hid hr; have HR1 := hid hr1
  clear hrl hrx hro hI hidx hr hr1
  go_enter Try.func13, Try.ntmps13
  go_wp2_with fail
  refine (RL _ HR1.out).mono ?_
  rintro e w1 ⟨rfl, b1⟩
  have bb1 := hb1.trans (b1.mono hb1.size)
  have hro1 := below_all b1 HRO.out
  obtain ⟨y0, y1, y2⟩ := cell3 hro1
  obtain ⟨w1a, hw1a⟩ : ∃ v, v = w1.alloc (.cells #[.int .i64 xa, .int .i64 xs, .int .i64 xc] 24) := ⟨_, rfl⟩
  have hn1 : w1a.heap[w1.heap.size]? = some (.cells #[.int .i64 xa, .int .i64 xs, .int .i64 xc] 24 (0, 0)) := by rw [hw1a]; exact heap_alloc_new w1 _
  have b1a : Below w1.heap.size w1 w1a := by rw [hw1a]; exact (Below.refl _ _).alloc (Nat.le_refl _) _
  have HN1 := hid hn1; have HW1A := hid hw1a
  have hro1a := below_all b1a hro1
  have bb1a := bb1.trans (b1a.mono bb1.size)
  clear hn1 hw1a RL hro1 b1a b1 bb1 hb1
  go_wp2_with fail
  rw [← HW1A.out]
  refine (RX _ _ HN1.out).mono ?_
  rintro e w2 ⟨rfl, b2⟩
  have bb2 := bb1a.trans (b2.mono bb1a.size)
  have hro2 := below_all b2 hro1a
  clear RX b2 bb1a hro1a y0 y1 y2
  go_wp2_with fail
  refine (IX _ (HR.out.below bb2) hro2).mono ?_
  rintro e w3 ⟨rfl, b3⟩
  have bb3 := bb2.trans (b3.mono bb2.size)
  have hro3 := below_all b3 hro2
  have hr3 := HR.out.below bb3
  obtain ⟨y0, y1, y2⟩ := cell3 hro3
  have sv : w3.cell? ⟨w.heap.size, 0, none⟩ = some (.int .i64 xa) ∧ w3.cell? ⟨w.heap.size, 1, none⟩ = some (.int .i64 xs) ∧ w3.cell? ⟨w.heap.size, 2, none⟩ = some (.int .i64 xc) := ⟨y0, y1, y2⟩
  have svd : w3.drew.cell? ⟨w.heap.size, 0, none⟩ = some (.int .i64 xa) ∧ w3.drew.cell? ⟨w.heap.size, 1, none⟩ = some (.int .i64 xs) ∧ w3.drew.cell? ⟨w.heap.size, 2, none⟩ = some (.int .i64 xc) := ⟨y0, y1, y2⟩
  have hr3d : RdX w3.drew a l := hr3.below (below_drewN2 (Below.refl _ _) 1)
  have b3d : Below w.heap.size w w3.drew := below_drewN2 bb3 1
  -- the two orders of the new block and the copy
  obtain ⟨v3, hv3⟩ : ∃ v, v = (w3.alloc (.cells #[.int .i64 xa, .int .i64 xs, .int .i64 xc] 24)) := ⟨_, rfl⟩
  have hn3 : v3.drew.heap[w3.heap.size]? = some (.cells #[.int .i64 xa, .int .i64 xs, .int .i64 xc] 24 (0, 0)) := by rw [hv3]; exact heap_alloc_new w3 _
  have b33 : Below w3.heap.size w3 v3.drew := by rw [hv3]; exact below_drewN2 ((Below.refl _ _).alloc (Nat.le_refl _) _) 1
  have hr3a := hr3.below b33
  have hro3a := below_all b33 hro3
  obtain ⟨z0, z1, z2⟩ := cell3 hro3a
  have sva : v3.drew.cell? ⟨w.heap.size, 0, none⟩ = some (.int .i64 xa) ∧ v3.drew.cell? ⟨w.heap.size, 1, none⟩ = some (.int .i64 xs) ∧ v3.drew.cell? ⟨w.heap.size, 2, none⟩ = some (.int .i64 xc) := ⟨z0, z1, z2⟩
  have b3a := bb3.trans (b33.mono bb3.size)
  have hsz3 : v3.drew.heap.size = w3.heap.size + 1 := by rw [hv3]; simp
  rw [hv3] at sva hr3a b3a hn3 hsz3 hro3a
  have HP3 := hid (heap_inX hro3); have HN3 := hid hn3; have HRO3A := hid hro3a; have HV3 := hid hv3; have HRO3 := hid hro3; have HB3 := hid bb3; have HB3A := hid b3a; have HSZ := hid hsz3
  clear hro2 bb2 b3 hro3 hn3 b33 hro3a IX hv3 z0 z1 z2 y0 y1 y2 bb3 b3a hr3 hsz3
  go_upto_region 6 with fail
  go_cut [7] (fun v wx => CutX (w.heap.size + 1) w (N + 1) (l.take I ++ ⟨xa, xs, xc⟩ :: l.drop I) v wx)
  case first =>
    go_region_held3 (fun W1 => W1.cell? ⟨w.heap.size, 0, none⟩ = some (.int .i64 xa) ∧ W1.cell? ⟨w.heap.size, 1, none⟩ = some (.int .i64 xs) ∧ W1.cell? ⟨w.heap.size, 2, none⟩ = some (.int .i64 xc))
      (first | (with_reducible exact s6) | (with_reducible exact s5) | (with_reducible exact s4) | (with_reducible exact svd) | (with_reducible exact sv) | (with_reducible exact sva))
      (first
        | (go_at_call_of 50 (A4); (with_reducible refine IA.out.mono ?_); rintro e w6 ⟨A6, c6, rfl, o6, b6⟩; have s6 := cell3 ((b6.block _ (Nat.lt_succ_self _)).trans HP5.out); have O6 := hid o6; have BB6 := hid (HB5.out.trans (b6.mono (Nat.le_succ _))); clear o6 b6)
        | (go_at_call_of 51 (N); (with_reducible refine (CL _ hr3d).mono ?_); rintro e w4 ⟨A4, c4, rfl, o4, b4⟩; have hp4 := below_all b4 (show w3.drew.heap[w.heap.size]? = some (.cells #[.int .i64 xa, .int .i64 xs, .int .i64 xc] 24 (0, 0)) from HRO3.out); have s4 := cell3 hp4; have ba4 := (Below.refl w4.heap.size w4).alloc (Nat.le_refl _) (.cells #[.int .i64 xa, .int .i64 xs, .int .i64 xc] 24); have HP5 := hid (below_all ba4 hp4); have s5 := cell3 HP5.out; have hb4 := b3d.trans (b4.mono b3d.size); have HB5 := hid (hb4.trans (ba4.mono hb4.size)); have IA := hid (IN (w4.alloc (.cells #[.int .i64 xa, .int .i64 xs, .int .i64 xc] 24)) A4 c4 w4.heap.size 1 ((o4.below ba4).mono (Nat.succ_le_of_lt HP3.out)) (Nat.le_trans (Nat.succ_le_of_lt (heap_inX hp4)) ba4.size) (heap_alloc_new w4 _) (fun g hg => by have := (own_block o4 hg).2; omega)); clear o4 b4 ba4 hp4 hb4)
        | (go_at_call_of 51 (N); (with_reducible refine (CL _ hr3a).mono ?_); rintro e w4 ⟨A4, c4, rfl, o4, b4⟩; have HP5 := hid (below_all b4 HRO3A.out); have s4 := cell3 HP5.out; have HB5 := hid (HB3A.out.trans (b4.mono HB3A.out.size)); have hlt := HP3.out; have hsz4 := HSZ.out; have IA := hid (IN w4 A4 c4 w3.heap.size 1 (o4.mono (by rw [hsz4]; omega)) (Nat.succ_le_of_lt (heap_inX HP5.out)) (below_all b4 HN3.out) (fun g hg => by have := (own_block o4 hg).1; omega)); clear o4 b4 hlt hsz4))
    all_goals (go_wp2_with fail; go_meet; exact ⟨_, _, rfl, O6.out, BB6.out⟩)
  case rest =>
    clear sv svd sva hr3d hr3a b3d CL IN
    obtain ⟨A6, c6, rfl, o6, bb6⟩ := hcut
    rw [HTK.out, HDR.out] at o6
    obtain ⟨g6, rfl, hg6⟩ := own_some o6 (by rw [HLEN.out]; exact Nat.succ_pos _)
    have RO := Right_any wc (some ⟨g6, 0, none⟩) c6 (N + 1) _ HLEN.out.symm (by rw [HLEN.out]; omega) o6.rd HOK.out
    rw [HRO2.out] at RO
    have O := hid o6
    have BB := hid bb6
    obtain ⟨w6, hw6⟩ : ∃ w6, w6 = wc := ⟨_, rfl⟩
    clear o6 bb6
    go_wp2_with fail
    refine RO.mono ?_
    rintro e w7 ⟨rfl, b7⟩
    have o7 := O.out.below b7
    have bb7 := BB.out.trans (b7.mono BB.out.size)
    have O7 := hid o7; have BB7 := hid bb7
    clear RO b7
    have q0 := o7.at3 I (by rw [HLEN.out]; omega)
    have q1 := o7.at3 (I + 1) (by rw [HLEN.out]; omega)
    rw [HX0.out] at q0
    rw [HX1.out] at q1
    try simp only at q0
    obtain ⟨p0, p1, p2, p3⟩ := q0
    obtain ⟨r0, r1, r2, r3⟩ := q1
    have hs1 : decide ((I : Int) + 1 < (N : Int) + 1) = true := decide_eq_true (by omega)
    have hs2 : IntKind.i64.wrap ((I : Int) + 1) = (I : Int) + 1 := IntWalk.i64_in _ (by omega)
    have hs3 : ((I : Int) + 1).toNat = I + 1 := by omega
    have hs4 : (0 : Int) ≤ (I : Int) + 1 := by omega
    have hs5 : (I : Int) < (N : Int) + 1 := by omega
    have hs6 : (I : Int) + 1 < (N : Int) + 1 := by omega
    have hs7 : (0 : Int) ≤ (I : Int) := by omega
    have sw : w7.cell? ⟨g6, I * 3, none⟩ = some (.int .i64 xa) ∧ w7.cell? ⟨g6, I * 3 + 1, none⟩ = some (.int .i64 xs) ∧ w7.cell? ⟨g6, I * 3 + 2, none⟩ = some (.int .i64 xc) ∧ w7.cell? ⟨g6, (I + 1) * 3, none⟩ = some (.int .i64 y.at_) ∧ w7.cell? ⟨g6, (I + 1) * 3 + 1, none⟩ = some (.int .i64 y.st) ∧ w7.cell? ⟨g6, (I + 1) * 3 + 2, none⟩ = some (.int .i64 y.ct) := ⟨p0, p1, p2, r0, r1, r2⟩
    have swd : w7.drew.cell? ⟨g6, I * 3, none⟩ = some (.int .i64 xa) ∧ w7.drew.cell? ⟨g6, I * 3 + 1, none⟩ = some (.int .i64 xs) ∧ w7.drew.cell? ⟨g6, I * 3 + 2, none⟩ = some (.int .i64 xc) ∧ w7.drew.cell? ⟨g6, (I + 1) * 3, none⟩ = some (.int .i64 y.at_) ∧ w7.drew.cell? ⟨g6, (I + 1) * 3 + 1, none⟩ = some (.int .i64 y.st) ∧ w7.drew.cell? ⟨g6, (I + 1) * 3 + 2, none⟩ = some (.int .i64 y.ct) := ⟨p0, p1, p2, r0, r1, r2⟩
    have JO := fun W => joins_any W ⟨xa, xs, xc⟩ y HJX.out
    rw [HJ1.out] at JO
    unfold Ext.val at JO
    simp only at JO
    have hbd : Below w7.heap.size w7 w7.drew := below_drewN2 (Below.refl _ _) 1
    clear o7 bb7
    go_wp2_with fail
    go_region_held3 (fun W1 => W1.cell? ⟨g6, I * 3, none⟩ = some (.int .i64 xa) ∧ W1.cell? ⟨g6, I * 3 + 1, none⟩ = some (.int .i64 xs) ∧ W1.cell? ⟨g6, I * 3 + 2, none⟩ = some (.int .i64 xc) ∧ W1.cell? ⟨g6, (I + 1) * 3, none⟩ = some (.int .i64 y.at_) ∧ W1.cell? ⟨g6, (I + 1) * 3 + 1, none⟩ = some (.int .i64 y.st) ∧ W1.cell? ⟨g6, (I + 1) * 3 + 2, none⟩ = some (.int .i64 y.ct))
      (first | (with_reducible exact sw8) | (with_reducible exact swd) | (with_reducible exact sw))
      (first
        | (go_at_call 52; (with_reducible refine (JO _).mono ?_); rintro e w8 ⟨rfl, b8⟩; have B8 := hid (hbd.trans (b8.mono hbd.size)); have o8q := O7.out.below B8.out; have q8 := o8q.at3 I (by rw [HLEN.out]; omega); have q9 := o8q.at3 (I + 1) (by rw [HLEN.out]; omega); rw [HX0.out] at q8; rw [HX1.out] at q9; simp only at q8; have sw8 := six_of q8 q9; have O8 := hid o8q; have BB8 := hid (BB7.out.trans (B8.out.mono BB7.out.size)); clear o8q q8 q9 b8))
    clear sw swd p0 p1 p2 p3 r0 r1 r2 r3 O7 BB7
    have q0 := O8.out.at3 I (by rw [HLEN.out]; omega)
    have q1 := O8.out.at3 (I + 1) (by rw [HLEN.out]; omega)
    rw [HX0.out] at q0
    rw [HX1.out] at q1
    try simp only at q0
    obtain ⟨p0, p1, p2, p3⟩ := q0
    obtain ⟨r0, r1, r2, r3⟩ := q1
    obtain ⟨hx1, hx2⟩ := HCT.out
    have hs8 : IntKind.i64.wrap (xc + y.ct) = xc + y.ct := IntWalk.i64_in _ (by omega)
    clear sw8 hs1
    have p3d : w8.drew.frozen? ⟨g6, I * 3 + 2, none⟩ = false := p3
    have o9 := (O8.out.setct I (merge ⟨xa, xs, xc⟩ y) (by rw [HLEN.out]; omega) (by rw [HX0.out]; rfl) (by rw [HX0.out]; rfl)).below (below_drewN2 (Below.refl _ _) 1)
    have bb9 := below_drewN2 (below_set (o := I * 3 + 2) BB8.out (Nat.le_trans (Nat.le_succ _) hg6) (.int .i64 (xc + y.ct))) 1
    rw [HSET.out] at o9
    have HO9 := hid o9; have HB9 := hid bb9
    clear o9 bb9
    go_upto_region 10 with fail
    go_cut [] (fun wx => StX (w.heap.size + 1) w g6 c6 ((k ++ [b]) ++ merge ⟨xa, xs, xc⟩ y :: y :: t) wx)
    case first =>
      go_region_law (fail)
      all_goals (go_wp2_with fail; go_meet; exact ⟨HO9.out, HB9.out⟩)
    case rest =>
    clear HO9 HB9
    obtain ⟨O9q, BB9q⟩ := hcut
    obtain ⟨w9, hw9⟩ : ∃ w9, w9 = wc := ⟨_, rfl⟩
    rw [← hw9] at O9q BB9q ⊢
    have DL := Delete_any (w.heap.size + 1) w9 g6 c6 (N + 1) (I + 1) _ HLM.out.symm (by omega) (by omega) O9q
    rw [show ((I + 1 : Nat) : Int) = (I : Int) + 1 by omega, show (I : Int) + 1 + 1 = (I : Int) + 2 by omega, Nat.add_sub_cancel, HCUT.out] at DL
    have HW9 := hid hw9; have BB9Q := hid BB9q
    clear hw9 O9q BB9q O8 BB8 p0 p1 p2 p3 p3d r0 r1 r2 r3 hs8 hs2 hs3 hs4 hs5 hs6 hs7
    go_wp2_with fail
    refine DL.mono ?_
    rintro e wa ⟨rfl, oa, ba⟩
    have BBA := hid (BB9Q.out.trans (ba.mono (Nat.le_succ _)))
    have OA := hid oa
    clear DL oa ba HW9 BB9Q
    obtain ⟨w9, hw9⟩ : ∃ w9, w9 = wa := ⟨_, rfl⟩
    have O9 := OA; have BB9 := BBA
    rw [← hw9] at O9 BB9 ⊢
    have HW9 := hid hw9
    clear hw9 OA BBA
    have hJ := HIJ.out
    have q0 := O9.out.at3 J (by rw [HL2.out]; omega)
    have q1 := O9.out.at3 I (by rw [HL2.out]; omega)
    rw [HZ0.out] at q0
    rw [HZ1.out] at q1
    try simp only [merge] at q1
    obtain ⟨p0, p1, p2, p3⟩ := q0
    obtain ⟨r0, r1, r2, r3⟩ := q1
    have hs1 : decide ((0 : Int) < (I : Int)) = true := decide_eq_true (by omega)
    have hs1' : 0 < I := by omega
    have hs2 : IntKind.i64.wrap ((I : Int) - 1) = (I : Int) - 1 := IntWalk.i64_in _ (by omega)
    have hs3 : ((I : Int) - 1).toNat = J := by omega
    have hs4 : (0 : Int) ≤ (I : Int) - 1 := by omega
    have hs4' : (1 : Int) ≤ (I : Int) := by omega
    have hs5 : (I : Int) - 1 < ((N : Nat) : Int) := by omega
    have hs6 : (I : Int) < ((N : Nat) : Int) := by omega
    have hs5' : (I : Int) - 1 < ((N : Int)) := by omega
    have hs6' : (I : Int) < ((N : Int)) := by omega
    have hs7 : (0 : Int) ≤ (I : Int) := by omega
    have sw : w9.cell? ⟨g6, J * 3, none⟩ = some (.int .i64 b.at_) ∧ w9.cell? ⟨g6, J * 3 + 1, none⟩ = some (.int .i64 b.st) ∧ w9.cell? ⟨g6, J * 3 + 2, none⟩ = some (.int .i64 b.ct) ∧ w9.cell? ⟨g6, I * 3, none⟩ = some (.int .i64 xa) ∧ w9.cell? ⟨g6, I * 3 + 1, none⟩ = some (.int .i64 xs) ∧ w9.cell? ⟨g6, I * 3 + 2, none⟩ = some (.int .i64 (xc + y.ct)) := ⟨p0, p1, p2, r0, r1, r2⟩
    have swd : w9.drew.cell? ⟨g6, J * 3, none⟩ = some (.int .i64 b.at_) ∧ w9.drew.cell? ⟨g6, J * 3 + 1, none⟩ = some (.int .i64 b.st) ∧ w9.drew.cell? ⟨g6, J * 3 + 2, none⟩ = some (.int .i64 b.ct) ∧ w9.drew.cell? ⟨g6, I * 3, none⟩ = some (.int .i64 xa) ∧ w9.drew.cell? ⟨g6, I * 3 + 1, none⟩ = some (.int .i64 xs) ∧ w9.drew.cell? ⟨g6, I * 3 + 2, none⟩ = some (.int .i64 (xc + y.ct)) := ⟨p0, p1, p2, r0, r1, r2⟩
    have JO := fun W => joins_any W b (merge ⟨xa, xs, xc⟩ y) HJB.out
    rw [HJ2.out] at JO
    unfold Ext.val at JO
    try simp only [merge] at JO
    have hbd : Below w9.heap.size w9 w9.drew := below_drewN2 (Below.refl _ _) 1
    clear hJ
    go_wp2_with fail
    go_region_held3 (fun W1 => W1.cell? ⟨g6, J * 3, none⟩ = some (.int .i64 b.at_) ∧ W1.cell? ⟨g6, J * 3 + 1, none⟩ = some (.int .i64 b.st) ∧ W1.cell? ⟨g6, J * 3 + 2, none⟩ = some (.int .i64 b.ct) ∧ W1.cell? ⟨g6, I * 3, none⟩ = some (.int .i64 xa) ∧ W1.cell? ⟨g6, I * 3 + 1, none⟩ = some (.int .i64 xs) ∧ W1.cell? ⟨g6, I * 3 + 2, none⟩ = some (.int .i64 (xc + y.ct)))
      (first | (with_reducible exact swb) | (with_reducible exact swd) | (with_reducible exact sw))
      (first
        | (go_at_call 52; (with_reducible refine (JO _).mono ?_); rintro e wb ⟨rfl, bb⟩; have BQ := hid (hbd.trans (bb.mono hbd.size)); have obq := O9.out.below BQ.out; have qb := obq.at3 J (by rw [HL2.out]; have := HIJ.out; omega); have qc := obq.at3 I (by rw [HL2.out]; have := HIJ.out; omega); rw [HZ0.out] at qb; rw [HZ1.out] at qc; (try simp only [merge] at qc); have swb := six_of qb qc; have OB := hid obq; have BBB := hid (BB9.out.trans (BQ.out.mono BB9.out.size)); clear obq qb qc bb))
    clear sw swd p0 p1 p2 p3 r0 r1 r2 r3 O9 BB9
    go_wp2
    go_ret2
    exact ⟨_, _, rfl, OB.out.mono (Nat.le_succ _), BBB.out⟩

set_option linter.unusedVariables false in
theorem Add_JJ (w : World) (a : Option Addr) (c N : Nat) (x : Ext) (y : Ext) (t : List Ext) (b : Ext) (k : List Ext) (hj1 : joinsX x y = true) (hj2 : joinsX b (merge x y) = true) (hN : N = ((k ++ [b]) ++ y :: t).length) (hl : N ≤ 999990) (hr : RdX w a ((k ++ [b]) ++ y :: t)) (hol : okX ((k ++ [b]) ++ y :: t)) (hox : x.ok) (hrl : rightX ((k ++ [b]) ++ y :: t) = true) (hrx : rightX [x] = true) (hI : insI x ((k ++ [b]) ++ y :: t) = (k ++ [b]).length) (hro2 : rightX ((k ++ [b]) ++ x :: y :: t) = true) :
    Calls Try.prog 13 #[.slice a N c, x.val] w fun e w' => ∃ A' c', e = .returned (.tuple #[.slice A' (k ++ merge b (merge x y) :: t).length c', .int .i64 0]) ∧ OwnX w.heap.size w' A' c' (k ++ merge b (merge x y) :: t) ∧ Below w.heap.size w w' := by
  have hlen0 : ((k ++ [b]) ++ x :: y :: t).length = N + 1 := by rw [hN]; simp <;> omega
  have hok2 : okX ((k ++ [b]) ++ x :: y :: t) := okX_mem.2 (by
    intro q hq
    have hol' := okX_mem.1 hol
    simp only [List.mem_append, List.mem_cons] at hq hol'
    rcases hq with hq | hq | hq
    · exact hol' q (.inl hq)
    · rw [hq]; exact hox
    · exact hol' q (.inr hq))
  obtain ⟨I, hIe⟩ : ∃ I, I = (k ++ [b]).length := ⟨_, rfl⟩
  have hIN : I < N := by rw [hIe, hN]; simp
  rw [← hIe] at hI
  have hx0 : xat ((k ++ [b]) ++ x :: y :: t) I = x := xat_mid _ _ _ _ hIe
  have hx1 : xat ((k ++ [b]) ++ x :: y :: t) (I + 1) = y := xat_mid1 _ _ _ _ _ hIe
  have hnx := rf_at hro2 I (by rw [hlen0]; omega)
  rw [hx0] at hnx
  have hny := rf_at hro2 (I + 1) (by rw [hlen0]; omega)
  rw [hx1] at hny
  have htk : ((k ++ [b]) ++ y :: t).take I = (k ++ [b]) := by rw [hIe]; exact List.take_left
  have hdr : ((k ++ [b]) ++ y :: t).drop I = y :: t := by rw [hIe]; exact List.drop_left
  have hset : ((k ++ [b]) ++ x :: y :: t).set I (merge x y) = (k ++ [b]) ++ merge x y :: y :: t := set_mid _ _ _ _ _ hIe
  have hcut : ((k ++ [b]) ++ merge x y :: y :: t).take (I + 1) ++ ((k ++ [b]) ++ merge x y :: y :: t).drop (I + 1 + 1) = (k ++ [b]) ++ merge x y :: t := cut_mid _ _ _ _ _ hIe
  have hlm : ((k ++ [b]) ++ merge x y :: y :: t).length = N + 1 := by rw [hN]; simp <;> omega
  obtain ⟨J, hJe⟩ : ∃ J, J = k.length := ⟨_, rfl⟩
  have hIJ : I = J + 1 := by rw [hIe, hJe]; simp
  have hsp : (k ++ [b]) ++ (merge x y) :: t = k ++ b :: (merge x y) :: t := by simp
  have hl2 : ((k ++ [b]) ++ (merge x y) :: t).length = N := by rw [hN]; simp <;> omega
  have hz0 : xat ((k ++ [b]) ++ (merge x y) :: t) J = b := by rw [hsp]; exact xat_mid _ _ _ _ hJe
  have hz1 : xat ((k ++ [b]) ++ (merge x y) :: t) I = (merge x y) := xat_mid _ _ _ _ hIe
  have hnb := rf_at hro2 J (by rw [hlen0]; omega)
  have hb0 : xat ((k ++ [b]) ++ x :: y :: t) J = b := by
    have e : (k ++ [b]) ++ x :: y :: t = k ++ b :: x :: y :: t := by simp
    rw [e]; exact xat_mid _ _ _ _ hJe
  rw [hb0] at hnb
  have hset2 : ((k ++ [b]) ++ (merge x y) :: t).set J (merge b (merge x y)) = k ++ merge b (merge x y) :: (merge x y) :: t := by rw [hsp]; exact set_mid _ _ _ _ _ hJe
  have hcut2 : (k ++ merge b (merge x y) :: (merge x y) :: t).take I ++ (k ++ merge b (merge x y) :: (merge x y) :: t).drop (I + 1) = k ++ merge b (merge x y) :: t := by rw [hIJ]; exact cut_mid _ _ _ _ _ hJe
  have hlm2 : (k ++ merge b (merge x y) :: (merge x y) :: t).length = N := by rw [hN]; simp <;> omega
  have hres : (k ++ merge b (merge x y) :: t).length = N - 1 := by rw [hN]; simp <;> omega
  rw [hres]
  generalize hL : ((k ++ [b]) ++ y :: t) = l at hN hr hol hrl hI htk hdr
  obtain ⟨xa, xs, xc⟩ := x
  simp only [Ext.val] at *
  have HTK := hid htk; have HDR := hid hdr; have HLEN := hid hlen0; have HOK := hid hok2; have HRO2 := hid hro2; have HX0 := hid hx0
  have HLL := hid hL
  have HX1 := hid hx1; have HIE := hid hIe
  have HJX := hid (show ((0 : Int) ≤ xa ∧ xa ≤ 512) ∧ ((1 : Int) ≤ xs ∧ xs ≤ 512) ∧ ((1 : Int) ≤ xc ∧ xc ≤ 1024) from ⟨hnx.1, hnx.2.1, hnx.2.2.1.1, by have := hnx.2.2.1.2; omega⟩)
  have HCT := hid (show ((1 : Int) ≤ xc ∧ xc ≤ 512) ∧ ((1 : Int) ≤ y.ct ∧ y.ct ≤ 512) from ⟨hnx.2.2.1, hny.2.2.1⟩)
  have HJ1 := hid hj1
  have HSET := hid hset; have HCUT := hid hcut; have HLM := hid hlm
  have HIJ := hid hIJ; have HL2 := hid hl2; have HZ0 := hid hz0; have HZ1 := hid hz1; have HJ2 := hid hj2; have HJE := hid hJe
  have HJB := hid (show (0 ≤ b.at_ ∧ b.at_ ≤ 512) ∧ (1 ≤ b.st ∧ b.st ≤ 512) ∧ (1 ≤ b.ct ∧ b.ct ≤ 1024) from ⟨hnb.1, hnb.2.1, hnb.2.2.1.1, by have := hnb.2.2.1.2; omega⟩)
  have HCB := hid (show ((1 : Int) ≤ b.ct ∧ b.ct ≤ 512) ∧ ((0 : Int) ≤ xc + y.ct ∧ xc + y.ct ≤ 2000) from ⟨hnb.2.2.1, by have := hnx.2.2.1; have := hny.2.2.1; omega⟩)
  have HSET2 := hid hset2; have HCUT2 := hid hcut2; have HLM2 := hid hlm2
  clear htk hdr hlen0 hok2 hro2 hx0 hL hres hnx hx1 hIe hny hj1 hset hcut hlm hIJ hl2 hz0 hz1 hj2 hJe hnb hsp hb0 hset2 hcut2 hlm2
  have RL := fun W (h : RdX W a l) => Right_any W a c N l hN (by rw [← hN]; omega) h hol
  have RX := fun W (g : Nat) (h : W.heap[g]? = some (.cells #[.int .i64 xa, .int .i64 xs, .int .i64 xc] 24 (0, 0))) => Right_any W (some ⟨g, 0, none⟩) 1 1 [⟨xa, xs, xc⟩] rfl (by simp) (RdX.one h) (okX_mem.2 (by simpa using hox))
  rw [hrl] at RL
  have HN := hid hN
  clear hN
  rw [hrx] at RX
  have hb1 : Below w.heap.size w (w.alloc (.cells #[.int .i64 xa, .int .i64 xs, .int .i64 xc] 24)) := (Below.refl _ _).alloc (Nat.le_refl _) _
  have hro : (w.alloc (.cells #[.int .i64 xa, .int .i64 xs, .int .i64 xc] 24)).heap[w.heap.size]? = some (.cells #[.int .i64 xa, .int .i64 xs, .int .i64 xc] 24 (0, 0)) := heap_alloc_new w _
  have hr1 := hr.below hb1
  have IX := fun W (h : RdX W a l) (hc : W.heap[w.heap.size]? = some (.cells #[.int .i64 xa, .int .i64 xs, .int .i64 xc] 24 (0, 0))) => IndexAdd_any w W w.heap.size a c N l HN.out (by have := HN.out; omega) h ⟨xa, xs, xc⟩ 24 hc
  have hidx : idxV (l.findIdx (fun y => decide ((⟨xa, xs, xc⟩ : Ext).at_ ≤ y.at_))) l.length = (I : Int) := by
    have e : l.findIdx (fun y => decide ((⟨xa, xs, xc⟩ : Ext).at_ ≤ y.at_)) = I := hI
    rw [e, idxV_in (by rw [← HN.out]; exact hIN)]
  rw [hidx] at IX
  have CL := fun W (h : RdX W a l) => CloneX_any W a c N l HN.out (by have := HN.out; omega) h
  have IN := fun W (A : Option Addr) (c' vb vc : Nat) (ho : OwnX (w.heap.size + 1) W A c' l) (hb : w.heap.size + 1 ≤ W.heap.size) (hx : W.heap[vb]? = some (.cells #[.int .i64 xa, .int .i64 xs, .int .i64 xc] 24 (0, 0))) hv => Insert_any (w.heap.size + 1) W A c' N I l HN.out (by omega) (Nat.le_of_lt hIN) ho hb vb vc ⟨xa, xs, xc⟩ hx hv
  have HRO := hid hro; have HI := hid hI; have HR := hid hr; have HR1 := hid hr1
  clear hrl hrx hro hI hidx hr hr1
  go_enter Try.func13, Try.ntmps13
  go_wp2_with fail
  refine (RL _ HR1.out).mono ?_
  rintro e w1 ⟨rfl, b1⟩
  have bb1 := hb1.trans (b1.mono hb1.size)
  have hro1 := below_all b1 HRO.out
  obtain ⟨y0, y1, y2⟩ := cell3 hro1
  obtain ⟨w1a, hw1a⟩ : ∃ v, v = w1.alloc (.cells #[.int .i64 xa, .int .i64 xs, .int .i64 xc] 24) := ⟨_, rfl⟩
  have hn1 : w1a.heap[w1.heap.size]? = some (.cells #[.int .i64 xa, .int .i64 xs, .int .i64 xc] 24 (0, 0)) := by rw [hw1a]; exact heap_alloc_new w1 _
  have b1a : Below w1.heap.size w1 w1a := by rw [hw1a]; exact (Below.refl _ _).alloc (Nat.le_refl _) _
  have HN1 := hid hn1; have HW1A := hid hw1a
  have hro1a := below_all b1a hro1
  have bb1a := bb1.trans (b1a.mono bb1.size)
  clear hn1 hw1a RL hro1 b1a b1 bb1 hb1
  go_wp2_with fail
  rw [← HW1A.out]
  refine (RX _ _ HN1.out).mono ?_
  rintro e w2 ⟨rfl, b2⟩
  have bb2 := bb1a.trans (b2.mono bb1a.size)
  have hro2 := below_all b2 hro1a
  clear RX b2 bb1a hro1a y0 y1 y2
  go_wp2_with fail
  refine (IX _ (HR.out.below bb2) hro2).mono ?_
  rintro e w3 ⟨rfl, b3⟩
  have bb3 := bb2.trans (b3.mono bb2.size)
  have hro3 := below_all b3 hro2
  have hr3 := HR.out.below bb3
  obtain ⟨y0, y1, y2⟩ := cell3 hro3
  have sv : w3.cell? ⟨w.heap.size, 0, none⟩ = some (.int .i64 xa) ∧ w3.cell? ⟨w.heap.size, 1, none⟩ = some (.int .i64 xs) ∧ w3.cell? ⟨w.heap.size, 2, none⟩ = some (.int .i64 xc) := ⟨y0, y1, y2⟩
  have svd : w3.drew.cell? ⟨w.heap.size, 0, none⟩ = some (.int .i64 xa) ∧ w3.drew.cell? ⟨w.heap.size, 1, none⟩ = some (.int .i64 xs) ∧ w3.drew.cell? ⟨w.heap.size, 2, none⟩ = some (.int .i64 xc) := ⟨y0, y1, y2⟩
  have hr3d : RdX w3.drew a l := hr3.below (below_drewN2 (Below.refl _ _) 1)
  have b3d : Below w.heap.size w w3.drew := below_drewN2 bb3 1
  -- the two orders of the new block and the copy
  obtain ⟨v3, hv3⟩ : ∃ v, v = (w3.alloc (.cells #[.int .i64 xa, .int .i64 xs, .int .i64 xc] 24)) := ⟨_, rfl⟩
  have hn3 : v3.drew.heap[w3.heap.size]? = some (.cells #[.int .i64 xa, .int .i64 xs, .int .i64 xc] 24 (0, 0)) := by rw [hv3]; exact heap_alloc_new w3 _
  have b33 : Below w3.heap.size w3 v3.drew := by rw [hv3]; exact below_drewN2 ((Below.refl _ _).alloc (Nat.le_refl _) _) 1
  have hr3a := hr3.below b33
  have hro3a := below_all b33 hro3
  obtain ⟨z0, z1, z2⟩ := cell3 hro3a
  have sva : v3.drew.cell? ⟨w.heap.size, 0, none⟩ = some (.int .i64 xa) ∧ v3.drew.cell? ⟨w.heap.size, 1, none⟩ = some (.int .i64 xs) ∧ v3.drew.cell? ⟨w.heap.size, 2, none⟩ = some (.int .i64 xc) := ⟨z0, z1, z2⟩
  have b3a := bb3.trans (b33.mono bb3.size)
  have hsz3 : v3.drew.heap.size = w3.heap.size + 1 := by rw [hv3]; simp
  rw [hv3] at sva hr3a b3a hn3 hsz3 hro3a
  have HP3 := hid (heap_inX hro3); have HN3 := hid hn3; have HRO3A := hid hro3a; have HV3 := hid hv3; have HRO3 := hid hro3; have HB3 := hid bb3; have HB3A := hid b3a; have HSZ := hid hsz3
  clear hro2 bb2 b3 hro3 hn3 b33 hro3a IX hv3 z0 z1 z2 y0 y1 y2 bb3 b3a hr3 hsz3
  go_upto_region 6 with fail
  go_cut [7] (fun v wx => CutX (w.heap.size + 1) w (N + 1) (l.take I ++ ⟨xa, xs, xc⟩ :: l.drop I) v wx)
  case first =>
    go_region_held3 (fun W1 => W1.cell? ⟨w.heap.size, 0, none⟩ = some (.int .i64 xa) ∧ W1.cell? ⟨w.heap.size, 1, none⟩ = some (.int .i64 xs) ∧ W1.cell? ⟨w.heap.size, 2, none⟩ = some (.int .i64 xc))
      (first | (with_reducible exact s6) | (with_reducible exact s5) | (with_reducible exact s4) | (with_reducible exact svd) | (with_reducible exact sv) | (with_reducible exact sva))
      (first
        | (go_at_call_of 50 (A4); (with_reducible refine IA.out.mono ?_); rintro e w6 ⟨A6, c6, rfl, o6, b6⟩; have s6 := cell3 ((b6.block _ (Nat.lt_succ_self _)).trans HP5.out); have O6 := hid o6; have BB6 := hid (HB5.out.trans (b6.mono (Nat.le_succ _))); clear o6 b6)
        | (go_at_call_of 51 (N); (with_reducible refine (CL _ hr3d).mono ?_); rintro e w4 ⟨A4, c4, rfl, o4, b4⟩; have hp4 := below_all b4 (show w3.drew.heap[w.heap.size]? = some (.cells #[.int .i64 xa, .int .i64 xs, .int .i64 xc] 24 (0, 0)) from HRO3.out); have s4 := cell3 hp4; have ba4 := (Below.refl w4.heap.size w4).alloc (Nat.le_refl _) (.cells #[.int .i64 xa, .int .i64 xs, .int .i64 xc] 24); have HP5 := hid (below_all ba4 hp4); have s5 := cell3 HP5.out; have hb4 := b3d.trans (b4.mono b3d.size); have HB5 := hid (hb4.trans (ba4.mono hb4.size)); have IA := hid (IN (w4.alloc (.cells #[.int .i64 xa, .int .i64 xs, .int .i64 xc] 24)) A4 c4 w4.heap.size 1 ((o4.below ba4).mono (Nat.succ_le_of_lt HP3.out)) (Nat.le_trans (Nat.succ_le_of_lt (heap_inX hp4)) ba4.size) (heap_alloc_new w4 _) (fun g hg => by have := (own_block o4 hg).2; omega)); clear o4 b4 ba4 hp4 hb4)
        | (go_at_call_of 51 (N); (with_reducible refine (CL _ hr3a).mono ?_); rintro e w4 ⟨A4, c4, rfl, o4, b4⟩; have HP5 := hid (below_all b4 HRO3A.out); have s4 := cell3 HP5.out; have HB5 := hid (HB3A.out.trans (b4.mono HB3A.out.size)); have hlt := HP3.out; have hsz4 := HSZ.out; have IA := hid (IN w4 A4 c4 w3.heap.size 1 (o4.mono (by rw [hsz4]; omega)) (Nat.succ_le_of_lt (heap_inX HP5.out)) (below_all b4 HN3.out) (fun g hg => by have := (own_block o4 hg).1; omega)); clear o4 b4 hlt hsz4))
    all_goals (go_wp2_with fail; go_meet; exact ⟨_, _, rfl, O6.out, BB6.out⟩)
  case rest =>
    clear sv svd sva hr3d hr3a b3d CL IN
    obtain ⟨A6, c6, rfl, o6, bb6⟩ := hcut
    rw [HTK.out, HDR.out] at o6
    obtain ⟨g6, rfl, hg6⟩ := own_some o6 (by rw [HLEN.out]; exact Nat.succ_pos _)
    have RO := Right_any wc (some ⟨g6, 0, none⟩) c6 (N + 1) _ HLEN.out.symm (by rw [HLEN.out]; omega) o6.rd HOK.out
    rw [HRO2.out] at RO
    have O := hid o6
    have BB := hid bb6
    obtain ⟨w6, hw6⟩ : ∃ w6, w6 = wc := ⟨_, rfl⟩
    clear o6 bb6
    go_wp2_with fail
    refine RO.mono ?_
    rintro e w7 ⟨rfl, b7⟩
    have o7 := O.out.below b7
    have bb7 := BB.out.trans (b7.mono BB.out.size)
    have O7 := hid o7; have BB7 := hid bb7
    clear RO b7
    have q0 := o7.at3 I (by rw [HLEN.out]; omega)
    have q1 := o7.at3 (I + 1) (by rw [HLEN.out]; omega)
    rw [HX0.out] at q0
    rw [HX1.out] at q1
    try simp only at q0
    obtain ⟨p0, p1, p2, p3⟩ := q0
    obtain ⟨r0, r1, r2, r3⟩ := q1
    have hs1 : decide ((I : Int) + 1 < (N : Int) + 1) = true := decide_eq_true (by omega)
    have hs2 : IntKind.i64.wrap ((I : Int) + 1) = (I : Int) + 1 := IntWalk.i64_in _ (by omega)
    have hs3 : ((I : Int) + 1).toNat = I + 1 := by omega
    have hs4 : (0 : Int) ≤ (I : Int) + 1 := by omega
    have hs5 : (I : Int) < (N : Int) + 1 := by omega
    have hs6 : (I : Int) + 1 < (N : Int) + 1 := by omega
    have hs7 : (0 : Int) ≤ (I : Int) := by omega
    have sw : w7.cell? ⟨g6, I * 3, none⟩ = some (.int .i64 xa) ∧ w7.cell? ⟨g6, I * 3 + 1, none⟩ = some (.int .i64 xs) ∧ w7.cell? ⟨g6, I * 3 + 2, none⟩ = some (.int .i64 xc) ∧ w7.cell? ⟨g6, (I + 1) * 3, none⟩ = some (.int .i64 y.at_) ∧ w7.cell? ⟨g6, (I + 1) * 3 + 1, none⟩ = some (.int .i64 y.st) ∧ w7.cell? ⟨g6, (I + 1) * 3 + 2, none⟩ = some (.int .i64 y.ct) := ⟨p0, p1, p2, r0, r1, r2⟩
    have swd : w7.drew.cell? ⟨g6, I * 3, none⟩ = some (.int .i64 xa) ∧ w7.drew.cell? ⟨g6, I * 3 + 1, none⟩ = some (.int .i64 xs) ∧ w7.drew.cell? ⟨g6, I * 3 + 2, none⟩ = some (.int .i64 xc) ∧ w7.drew.cell? ⟨g6, (I + 1) * 3, none⟩ = some (.int .i64 y.at_) ∧ w7.drew.cell? ⟨g6, (I + 1) * 3 + 1, none⟩ = some (.int .i64 y.st) ∧ w7.drew.cell? ⟨g6, (I + 1) * 3 + 2, none⟩ = some (.int .i64 y.ct) := ⟨p0, p1, p2, r0, r1, r2⟩
    have JO := fun W => joins_any W ⟨xa, xs, xc⟩ y HJX.out
    rw [HJ1.out] at JO
    unfold Ext.val at JO
    simp only at JO
    have hbd : Below w7.heap.size w7 w7.drew := below_drewN2 (Below.refl _ _) 1
    clear o7 bb7
    go_wp2_with fail
    go_region_held3 (fun W1 => W1.cell? ⟨g6, I * 3, none⟩ = some (.int .i64 xa) ∧ W1.cell? ⟨g6, I * 3 + 1, none⟩ = some (.int .i64 xs) ∧ W1.cell? ⟨g6, I * 3 + 2, none⟩ = some (.int .i64 xc) ∧ W1.cell? ⟨g6, (I + 1) * 3, none⟩ = some (.int .i64 y.at_) ∧ W1.cell? ⟨g6, (I + 1) * 3 + 1, none⟩ = some (.int .i64 y.st) ∧ W1.cell? ⟨g6, (I + 1) * 3 + 2, none⟩ = some (.int .i64 y.ct))
      (first | (with_reducible exact sw8) | (with_reducible exact swd) | (with_reducible exact sw))
      (first
        | (go_at_call 52; (with_reducible refine (JO _).mono ?_); rintro e w8 ⟨rfl, b8⟩; have B8 := hid (hbd.trans (b8.mono hbd.size)); have o8q := O7.out.below B8.out; have q8 := o8q.at3 I (by rw [HLEN.out]; omega); have q9 := o8q.at3 (I + 1) (by rw [HLEN.out]; omega); rw [HX0.out] at q8; rw [HX1.out] at q9; simp only at q8; have sw8 := six_of q8 q9; have O8 := hid o8q; have BB8 := hid (BB7.out.trans (B8.out.mono BB7.out.size)); clear o8q q8 q9 b8))
    clear sw swd p0 p1 p2 p3 r0 r1 r2 r3 O7 BB7
    have q0 := O8.out.at3 I (by rw [HLEN.out]; omega)
    have q1 := O8.out.at3 (I + 1) (by rw [HLEN.out]; omega)
    rw [HX0.out] at q0
    rw [HX1.out] at q1
    try simp only at q0
    obtain ⟨p0, p1, p2, p3⟩ := q0
    obtain ⟨r0, r1, r2, r3⟩ := q1
    obtain ⟨hx1, hx2⟩ := HCT.out
    have hs8 : IntKind.i64.wrap (xc + y.ct) = xc + y.ct := IntWalk.i64_in _ (by omega)
    clear sw8 hs1
    have p3d : w8.drew.frozen? ⟨g6, I * 3 + 2, none⟩ = false := p3
    have o9 := (O8.out.setct I (merge ⟨xa, xs, xc⟩ y) (by rw [HLEN.out]; omega) (by rw [HX0.out]; rfl) (by rw [HX0.out]; rfl)).below (below_drewN2 (Below.refl _ _) 1)
    have bb9 := below_drewN2 (below_set (o := I * 3 + 2) BB8.out (Nat.le_trans (Nat.le_succ _) hg6) (.int .i64 (xc + y.ct))) 1
    rw [HSET.out] at o9
    have HO9 := hid o9; have HB9 := hid bb9
    clear o9 bb9
    go_upto_region 10 with fail
    go_cut [] (fun wx => StX (w.heap.size + 1) w g6 c6 ((k ++ [b]) ++ merge ⟨xa, xs, xc⟩ y :: y :: t) wx)
    case first =>
      go_region_law (fail)
      all_goals (go_wp2_with fail; go_meet; exact ⟨HO9.out, HB9.out⟩)
    case rest =>
    clear HO9 HB9
    obtain ⟨O9q, BB9q⟩ := hcut
    obtain ⟨w9, hw9⟩ : ∃ w9, w9 = wc := ⟨_, rfl⟩
    rw [← hw9] at O9q BB9q ⊢
    have DL := Delete_any (w.heap.size + 1) w9 g6 c6 (N + 1) (I + 1) _ HLM.out.symm (by omega) (by omega) O9q
    rw [show ((I + 1 : Nat) : Int) = (I : Int) + 1 by omega, show (I : Int) + 1 + 1 = (I : Int) + 2 by omega, Nat.add_sub_cancel, HCUT.out] at DL
    have HW9 := hid hw9; have BB9Q := hid BB9q
    clear hw9 O9q BB9q O8 BB8 p0 p1 p2 p3 p3d r0 r1 r2 r3 hs8 hs2 hs3 hs4 hs5 hs6 hs7
    go_wp2_with fail
    refine DL.mono ?_
    rintro e wa ⟨rfl, oa, ba⟩
    have BBA := hid (BB9Q.out.trans (ba.mono (Nat.le_succ _)))
    have OA := hid oa
    clear DL oa ba HW9 BB9Q
    obtain ⟨w9, hw9⟩ : ∃ w9, w9 = wa := ⟨_, rfl⟩
    have O9 := OA; have BB9 := BBA
    rw [← hw9] at O9 BB9 ⊢
    have HW9 := hid hw9
    clear hw9 OA BBA
    have hJ := HIJ.out
    have q0 := O9.out.at3 J (by rw [HL2.out]; omega)
    have q1 := O9.out.at3 I (by rw [HL2.out]; omega)
    rw [HZ0.out] at q0
    rw [HZ1.out] at q1
    try simp only [merge] at q1
    obtain ⟨p0, p1, p2, p3⟩ := q0
    obtain ⟨r0, r1, r2, r3⟩ := q1
    have hs1 : decide ((0 : Int) < (I : Int)) = true := decide_eq_true (by omega)
    have hs1' : 0 < I := by omega
    have hs2 : IntKind.i64.wrap ((I : Int) - 1) = (I : Int) - 1 := IntWalk.i64_in _ (by omega)
    have hs3 : ((I : Int) - 1).toNat = J := by omega
    have hs4 : (0 : Int) ≤ (I : Int) - 1 := by omega
    have hs4' : (1 : Int) ≤ (I : Int) := by omega
    have hs5 : (I : Int) - 1 < ((N : Nat) : Int) := by omega
    have hs6 : (I : Int) < ((N : Nat) : Int) := by omega
    have hs5' : (I : Int) - 1 < ((N : Int)) := by omega
    have hs6' : (I : Int) < ((N : Int)) := by omega
    have hs7 : (0 : Int) ≤ (I : Int) := by omega
    have sw : w9.cell? ⟨g6, J * 3, none⟩ = some (.int .i64 b.at_) ∧ w9.cell? ⟨g6, J * 3 + 1, none⟩ = some (.int .i64 b.st) ∧ w9.cell? ⟨g6, J * 3 + 2, none⟩ = some (.int .i64 b.ct) ∧ w9.cell? ⟨g6, I * 3, none⟩ = some (.int .i64 xa) ∧ w9.cell? ⟨g6, I * 3 + 1, none⟩ = some (.int .i64 xs) ∧ w9.cell? ⟨g6, I * 3 + 2, none⟩ = some (.int .i64 (xc + y.ct)) := ⟨p0, p1, p2, r0, r1, r2⟩
    have swd : w9.drew.cell? ⟨g6, J * 3, none⟩ = some (.int .i64 b.at_) ∧ w9.drew.cell? ⟨g6, J * 3 + 1, none⟩ = some (.int .i64 b.st) ∧ w9.drew.cell? ⟨g6, J * 3 + 2, none⟩ = some (.int .i64 b.ct) ∧ w9.drew.cell? ⟨g6, I * 3, none⟩ = some (.int .i64 xa) ∧ w9.drew.cell? ⟨g6, I * 3 + 1, none⟩ = some (.int .i64 xs) ∧ w9.drew.cell? ⟨g6, I * 3 + 2, none⟩ = some (.int .i64 (xc + y.ct)) := ⟨p0, p1, p2, r0, r1, r2⟩
    have JO := fun W => joins_any W b (merge ⟨xa, xs, xc⟩ y) HJB.out
    rw [HJ2.out] at JO
    unfold Ext.val at JO
    try simp only [merge] at JO
    have hbd : Below w9.heap.size w9 w9.drew := below_drewN2 (Below.refl _ _) 1
    clear hJ
    go_wp2_with fail
    go_region_held3 (fun W1 => W1.cell? ⟨g6, J * 3, none⟩ = some (.int .i64 b.at_) ∧ W1.cell? ⟨g6, J * 3 + 1, none⟩ = some (.int .i64 b.st) ∧ W1.cell? ⟨g6, J * 3 + 2, none⟩ = some (.int .i64 b.ct) ∧ W1.cell? ⟨g6, I * 3, none⟩ = some (.int .i64 xa) ∧ W1.cell? ⟨g6, I * 3 + 1, none⟩ = some (.int .i64 xs) ∧ W1.cell? ⟨g6, I * 3 + 2, none⟩ = some (.int .i64 (xc + y.ct)))
      (first | (with_reducible exact swb) | (with_reducible exact swd) | (with_reducible exact sw))
      (first
        | (go_at_call 52; (with_reducible refine (JO _).mono ?_); rintro e wb ⟨rfl, bb⟩; have BQ := hid (hbd.trans (bb.mono hbd.size)); have obq := O9.out.below BQ.out; have qb := obq.at3 J (by rw [HL2.out]; have := HIJ.out; omega); have qc := obq.at3 I (by rw [HL2.out]; have := HIJ.out; omega); rw [HZ0.out] at qb; rw [HZ1.out] at qc; (try simp only [merge] at qc); have swb := six_of qb qc; have OB := hid obq; have BBB := hid (BB9.out.trans (BQ.out.mono BB9.out.size)); clear obq qb qc bb))
    clear sw swd p0 p1 p2 p3 r0 r1 r2 r3 O9 BB9
    have q0 := OB.out.at3 J (by rw [HL2.out]; have := HIJ.out; omega)
    have q1 := OB.out.at3 I (by rw [HL2.out]; have := HIJ.out; omega)
    rw [HZ0.out] at q0
    rw [HZ1.out] at q1
    try simp only [merge] at q1
    obtain ⟨p0, p1, p2, p3⟩ := q0
    obtain ⟨r0, r1, r2, r3⟩ := q1
    obtain ⟨hx3, hx4⟩ := HCB.out
    have hs8 : IntKind.i64.wrap (b.ct + (xc + y.ct)) = b.ct + (xc + y.ct) := IntWalk.i64_in _ (by omega)
    clear swb hs1
    have p3d : wb.drew.frozen? ⟨g6, J * 3 + 2, none⟩ = false := p3
    have oc := (OB.out.setct J (merge b (merge ⟨xa, xs, xc⟩ y)) (by rw [HL2.out]; have := HIJ.out; omega) (by rw [HZ0.out]; rfl) (by rw [HZ0.out]; rfl)).below (below_drewN2 (Below.refl _ _) 1)
    have bc := below_drewN2 (below_set (o := J * 3 + 2) BBB.out (Nat.le_trans (Nat.le_succ _) hg6) (.int .i64 (b.ct + (xc + y.ct)))) 1
    rw [HSET2.out] at oc
    have HOC := hid oc; have HBC := hid bc
    clear oc bc
    go_upto_region 13 with fail
    go_cut [] (fun wx => StX (w.heap.size + 1) w g6 c6 (k ++ merge b (merge ⟨xa, xs, xc⟩ y) :: (merge ⟨xa, xs, xc⟩ y) :: t) wx)
    case first =>
      go_region_law (fail)
      all_goals (go_wp2_with fail; go_meet; exact ⟨HOC.out, HBC.out⟩)
    case rest =>
    clear HOC HBC
    obtain ⟨OCq, BCq⟩ := hcut
    have DL := Delete_any (w.heap.size + 1) wc g6 c6 (N) I _ HLM2.out.symm (by omega) (by have := HIJ.out; omega) OCq
    rw [HCUT2.out] at DL
    have BCQ := hid BCq
    clear OCq BCq OB BBB p0 p1 p2 p3 p3d r0 r1 r2 r3 hs8 hs2 hs3 hs4 hs4' hs5 hs6 hs5' hs6' hs7 hx3 hx4
    go_wp2_with fail
    refine DL.mono ?_
    rintro e wd ⟨rfl, od, bd⟩
    have BBD := hid (BCQ.out.trans (bd.mono (Nat.le_succ _)))
    have OD := hid (od.mono (Nat.le_succ _))
    clear DL od bd
    go_wp2
    go_ret2
    exact ⟨_, _, rfl, OD.out, BBD.out⟩
/-- What Add answers. -/
def addOk (x : Ext) (l : List Ext) : Bool := rightX l && (rightX [x] && rightX (ins x l))
def addE (x : Ext) (l : List Ext) : Int := if addOk x l = true then 0 else 2
def addR (x : Ext) (l : List Ext) : List Ext := if addOk x l = true then addX x l else []
theorem insI_le (x : Ext) (l : List Ext) : insI x l ≤ l.length := List.findIdx_le_length
theorem Add_any (w : World) (a : Option Addr) (c N : Nat) (l : List Ext) (x : Ext) (hN : N = l.length) (hl : N ≤ 999990) (hr : RdX w a l) (hol : okX l) (hox : x.ok) :
    Calls Try.prog 13 #[.slice a N c, x.val] w fun e w' => ∃ A' c', e = .returned (.tuple #[.slice A' (addR x l).length c', .int .i64 (addE x l)]) ∧ OwnX w.heap.size w' A' c' (addR x l) ∧ Below w.heap.size w w' := by
  by_cases hok : addOk x l = true
  · have e1 : addR x l = addX x l := if_pos hok
    have e2 : addE x l = 0 := if_pos hok
    rw [e1, e2]
    simp only [addOk, Bool.and_eq_true] at hok
    obtain ⟨h1, h2, h3⟩ := hok
    have hle := insI_le x l
    have hI : insI x l = (l.take (insI x l)).length := by rw [List.length_take]; omega
    have hll : l.take (insI x l) ++ l.drop (insI x l) = l := List.take_append_drop _ _
    unfold ins at h3
    unfold addX
    generalize l.take (insI x l) = l1 at *
    generalize l.drop (insI x l) = l2 at *
    subst hll
    rcases List.eq_nil_or_concat l1 with rfl | ⟨k, b, rfl⟩
    · rcases l2 with _ | ⟨y, t⟩
      · exact Add_EE w a c N x hN hl hr hol hox h1 h2 hI h3
      · rcases hj : joinsX x y
        · have e : mergeL [] (mergeR x (y :: t)) = [] ++ x :: (y :: t) := by simp [mergeL, mergeR, hj]
          rw [e]
          exact Add_NE w a c N x y t hj hN hl hr hol hox h1 h2 hI h3
        · have e : mergeL [] (mergeR x (y :: t)) = [] ++ merge x y :: t := by simp [mergeL, mergeR, hj]
          rw [e]
          exact Add_JE w a c N x y t hj hN hl hr hol hox h1 h2 hI h3
    · simp only [List.concat_eq_append] at *
      rcases l2 with _ | ⟨y, t⟩
      · rcases hj2 : joinsX b x
        · have e : mergeL (k ++ [b]) (mergeR x []) = k ++ [b] ++ x :: [] := by simp [mergeL, mergeR, hj2]
          rw [e]
          exact Add_EN w a c N x b k hj2 hN hl hr hol hox h1 h2 hI h3
        · have e : mergeL (k ++ [b]) (mergeR x []) = k ++ merge b x :: [] := by simp [mergeL, mergeR, hj2]
          rw [e]
          exact Add_EJ w a c N x b k hj2 hN hl hr hol hox h1 h2 hI h3
      · rcases hj : joinsX x y
        · rcases hj2 : joinsX b x
          · have e : mergeL (k ++ [b]) (mergeR x (y :: t)) = k ++ [b] ++ x :: (y :: t) := by simp [mergeL, mergeR, hj, hj2]
            rw [e]
            exact Add_NN w a c N x y t b k hj hj2 hN hl hr hol hox h1 h2 hI h3
          · have e : mergeL (k ++ [b]) (mergeR x (y :: t)) = k ++ merge b x :: (y :: t) := by simp [mergeL, mergeR, hj, hj2]
            rw [e]
            exact Add_NJ w a c N x y t b k hj hj2 hN hl hr hol hox h1 h2 hI h3
        · rcases hj2 : joinsX b (merge x y)
          · have e : mergeL (k ++ [b]) (mergeR x (y :: t)) = k ++ [b] ++ merge x y :: t := by simp [mergeL, mergeR, hj, hj2]
            rw [e]
            exact Add_JN w a c N x y t b k hj hj2 hN hl hr hol hox h1 h2 hI h3
          · have e : mergeL (k ++ [b]) (mergeR x (y :: t)) = k ++ merge b (merge x y) :: t := by simp [mergeL, mergeR, hj, hj2]
            rw [e]
            exact Add_JJ w a c N x y t b k hj hj2 hN hl hr hol hox h1 h2 hI h3
  · have e1 : addR x l = [] := if_neg hok
    have e2 : addE x l = 2 := if_neg hok
    rw [e1, e2]
    have key : Calls Try.prog 13 #[.slice a N c, x.val] w fun e w' => e = .returned (.tuple #[.slice none 0 0, .int .i64 2]) ∧ Below w.heap.size w w' := by
      rcases h1 : rightX l
      · exact Add_err1 w a c N l x hN hl hr hol hox h1
      · rcases h2 : rightX [x]
        · exact Add_err2 w a c N l x hN hl hr hol hox h1 h2
        · have h3 : rightX (ins x l) = false := by simpa [addOk, h1, h2] using hok
          unfold ins at h3
          have hle := insI_le x l
          rw [← hN] at hle
          by_cases he : insI x l = N
          · rw [he] at h3
            exact Add_err3eq w a c N l x hN hl hr hol hox h1 h2 he h3
          · exact Add_err3lt w a c N (insI x l) l x hN hl hr hol hox h1 h2 rfl (by omega) h3
    exact key.mono fun e w' ⟨h1, h2⟩ => ⟨none, 0, h1, OwnX.nil _ _, h2⟩
end Go.Proofs.Ytahlhdhljjpeoaa
