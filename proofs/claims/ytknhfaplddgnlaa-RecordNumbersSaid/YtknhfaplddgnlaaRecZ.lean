/- law06's awake (printed by gen06o.py). -/
import Derived.Test.YtknhfaplddgnlaaRecY
namespace Go.Proofs.Ytknhfaplddgnlaa
open Go.RowKit
set_option maxHeartbeats 1500000
set_option maxRecDepth 100000
set_option linter.unusedVariables false
set_option linter.unusedSimpArgs false

theorem bat_replicate (n k : Nat) (b : UInt8) (h : k < n) : bat (List.replicate n b) k = b := by simp [bat, List.getD_eq_getElem?_getD, List.getElem?_replicate, h]
theorem hid_one : hidB oneD = List.replicate 64 97 := by
  refine bat_ext (by rw [hidB_length, List.length_replicate]) fun k hk => ?_
  rw [hidB_length] at hk
  unfold hidB
  rw [bat_hidTo _ _ _ (by omega)]
  rw [bat_replicate 64 k 97 (by omega)]
  exact bat_replicate 4096 _ 97 (by omega)
theorem one_head10 : (headB 1 1 oneI).take 10 = [0, 0, 1, 0, 0, 0, 0, 1, 0, 1] := by
  have hm := stampB_length 1 1
  have hi := inB_length oneI (by decide)
  have h8 : (headB 1 1 oneI).take 8 = stampB 1 1 := take8 hm hi
  have hl := headB_length 1 1 oneI (by decide)
  have h2 : ((headB 1 1 oneI).drop 8).take 2 = (inB oneI).take 2 := by
    refine bat_ext (by rw [List.length_take, List.length_take, List.length_drop, hl, hi]; decide) fun k hk => ?_
    have hk2 : k < 2 := by
      rw [List.length_take] at hk
      omega
    rw [bat_part _ _ _ _ hk2, bat_take _ _ _ hk2]
    have := bat_spreadB hm hi (8 + k) (by omega)
    rw [if_neg (by omega)] at this
    rw [show headB 1 1 oneI = spreadB (stampB 1 1) (inB oneI) from rfl, this]
    congr 1
    omega
  have hi2 : (inB oneI).take 2 = [0, 1] := by
    have e : inB oneI = be 1 2 ++ (be (crcMore 0 (lB oneI)) 4 ++ lB oneI) := by
      unfold inB
      rw [List.append_assoc]
      rfl
    rw [e]
    rfl
  have e10 : (headB 1 1 oneI).take 10 = (headB 1 1 oneI).take 8 ++ ((headB 1 1 oneI).drop 8).take 2 := by
    show (headB 1 1 oneI).take (8 + 2) = _
    exact List.take_add
  rw [e10, h8, h2, hi2]
  decide
theorem one_head14 : ((headB 1 1 oneI).drop 14).take 4 = [0, 40, 97, 97] := by
  have hm := stampB_length 1 1
  have hi := inB_length oneI (by decide)
  have hl := headB_length 1 1 oneI (by decide)
  have h2 : ((headB 1 1 oneI).drop 14).take 4 = ((inB oneI).drop 6).take 4 := by
    refine bat_ext (by rw [List.length_take, List.length_take, List.length_drop, List.length_drop, hl, hi]; decide) fun k hk => ?_
    have hk2 : k < 4 := by
      rw [List.length_take] at hk
      omega
    rw [bat_part _ _ _ _ hk2, bat_part _ _ _ _ hk2]
    have := bat_spreadB hm hi (14 + k) (by omega)
    rw [if_neg (by omega)] at this
    rw [show headB 1 1 oneI = spreadB (stampB 1 1) (inB oneI) from rfl, this]
    congr 1
    omega
  obtain ⟨X, Y, hX, hI⟩ := inB_split oneI 0 (40, oneD) rfl
  rw [h2, hI, show (6 : Nat) = X.length by rw [hX], List.drop_left]
  simp only
  rw [hid_one]
  rfl
theorem awake06_any (w : World) : Calls Try.prog 18 #[] w fun e w' => e = .returned (.bool true) ∧ Below w.heap.size w w' := by
  obtain ⟨k1, k2, k3, k4, k5⟩ := head_put one_right
  have kok := ok_put one_right
  have hid1 : hdE (headB 1 1 oneI) = 1 := by unfold hdE; rw [k1, k2]; rfl
  have hid2 : hdQ (headB 1 1 oneI) = 1 := by unfold hdQ; rw [k1, k3]; rfl
  have hid3 : hdN (headB 1 1 oneI) = 1 := by unfold hdN; rw [k1, k4, k5]; rfl
  have hgot : gotIms (gathB (headB 1 1 oneI)) (oneI.map fun x : Img => markB (stampB 1 1) x.2) 1 = oneI := by
    rw [k4]
    exact got_put oneI (rightG_out one_right).2.2.2.2.2.2 _
  have hn1 : nOf (gathB (headB 1 1 oneI)) = 1 := by rw [k4, k5]; rfl
  have K1 := hid k1; have K2 := hid k2; have K3 := hid k3; have KOK := hid kok; have H1 := hid hid1; have H2 := hid hid2; have H3 := hid hid3; have HGOT := hid hgot; have HN1 := hid hn1
  clear k1 k2 k3 k4 k5 kok hid1 hid2 hid3 hgot hn1
  go_enter Try.func18, Try.ntmps18
  go_wp2_with fail
  refine (one_any w).mono ?_
  rintro e w1 ⟨g, rfl, hg, b1⟩
  have PT := Put_any w1 1 1 (some ⟨g, 0, none⟩) 1 1 oneI rfl hg
  have hor : rightG 1 1 oneI = true := one_right
  rw [hor] at PT
  have t1 : (1 : Int).toNat = 1 := rfl
  rw [t1] at PT
  clear hg hor t1
  go_wp2_with fail
  refine PT.mono ?_
  rintro e w2 ⟨b2, -, hyes⟩
  obtain ⟨L, cL, gs, rfl, hols⟩ := hyes trivial
  clear PT hyes
  have b12 := b1.trans (b2.mono b1.size)
  have hgl := hols.blk.len
  obtain ⟨g0, c0, g1, c1, rfl⟩ : ∃ g0 c0 g1 c1, gs = [(g0, c0), (g1, c1)] := by
    match gs, hgl with
    | [(g0, c0), (g1, c1)], _ => exact ⟨g0, c0, g1, c1, rfl⟩
    | [], h => cases h
    | [_], h => cases h
    | _ :: _ :: _ :: _, h => cases h
  have l0 := World.ownsRow.cellAt hols.row 0 (by decide)
  have l1 := World.ownsRow.cellAt hols.row 1 (by decide)
  have l0' : w2.cell? ⟨L, 0, none⟩ = some (.slice (some ⟨g0, 0, none⟩) 4096 c0) := l0
  have l1' : w2.cell? ⟨L, 1, none⟩ = some (.slice (some ⟨g1, 0, none⟩) 4096 c1) := l1
  obtain ⟨ho0, hl0⟩ := hols.blk.own 0 (g0, c0) (headB 1 1 oneI) rfl rfl
  have hcap := ho0.cap
  rw [hl0] at hcap
  obtain ⟨hcap1, hcap2⟩ := hcap
  have hcl := own_cap hols.row
  have HD := Head_any w2 (some ⟨g0, 0, none⟩) 4096 c0 (headB 1 1 oneI) hl0.symm (by omega) (by omega) ho0.rd
  rw [H1.out, H2.out, H3.out, K1.out] at HD
  have hrd := hols.rd
  have HRD := hid hrd; have HO0 := hid ho0; have HL0 := hid hl0; have HCL := hid hcl; have HLB := hid (own_lt hols.row L rfl)
  clear hols l0 l1 ho0 hrd hgl hcl hl0
  go_wp2_with fail
  refine HD.mono ?_
  rintro e w3 ⟨rfl, b3⟩
  clear HD
  have b13 := b12.trans (b3.mono b12.size)
  have l03 := cell_below b3 l0'
  have hrd3 : RdLs w3 (some ⟨L, 0, none⟩) (headB 1 1 oneI :: oneI.map fun x : Img => markB (stampB 1 1) x.2) := HRD.out.below b3
  have GT := Get_any w3 (some ⟨L, 0, none⟩) 2 cL (headB 1 1 oneI) (oneI.map fun x : Img => markB (stampB 1 1) x.2) rfl (by have := HCL.out; exact this) (by decide) (fun l hl => by
    rcases List.mem_cons.1 hl with rfl | hl
    · rw [HL0.out]; decide
    · obtain ⟨x, hx, rfl⟩ := List.mem_map.1 hl
      simp only [oneI, List.mem_singleton] at hx
      subst hx
      rw [markB_length]
      simp [oneD]) hrd3 (fun b hb => by
      have h1 := HLB.out
      have h2 := b3.size
      have : L = b := by simpa [blkOf] using hb
      omega)
  clear l0' l1' hrd3
  go_wp2_with fail
  refine GT.mono ?_
  rintro e w4 ⟨b4, -, hyes⟩
  obtain ⟨h, t, A, c, gsi, ht, rfl, him⟩ := hyes KOK.out
  clear GT hyes
  cases ht
  have hims := him.rd
  have b14 := b13.trans (b4.mono b13.size)
  have l04 := cell_below b4 l03
  have HR0 := ((HO0.out.below b3).below b4)
  have e1 : epOf (headB 1 1 oneI) = 1 := K2.out
  have e2 : seqOf (headB 1 1 oneI) = 1 := K3.out
  have e3 := HN1.out
  have hims2 : RdG w4 A oneI := by
    have h1 : RdG w4 A (gotIms (gathB (headB 1 1 oneI)) (oneI.map fun x : Img => markB (stampB 1 1) x.2) (nOf (gathB (headB 1 1 oneI)))) := hims
    rw [e3, HGOT.out] at h1
    exact h1
  simp only [e1, e2, e3]
  have b5 : Below w4.heap.size w4 (w4.alloc (.cells #[.int .i64 1, .int .i64 1, .slice A 1 c] 28)) := (Below.refl _ _).alloc (Nat.le_refl _) _
  have hG := heap_alloc_new w4 (.cells #[.int .i64 1, .int .i64 1, .slice A 1 c] 28)
  obtain ⟨q0, q1, q2⟩ := cells3 hG
  have b15 := b14.trans (b5.mono b14.size)
  have HB15 := hid b15
  have hd := below_drw (Below.refl (w4.alloc (.cells #[.int .i64 1, .int .i64 1, .slice A 1 c] 28)).heap.size (w4.alloc (.cells #[.int .i64 1, .int .i64 1, .slice A 1 c] 28)))
  have HIM := hid ((hims2.below b5).below hd)
  have hr0 := ((HR0.below b5).below hd).rd
  have p10 := hr0.part 0 10
  have p14 := hr0.part 14 4
  rw [List.drop_zero, one_head10] at p10
  rw [one_head14] at p14
  have HR10 : Hid (RdB (w4.alloc (.cells #[.int .i64 1, .int .i64 1, .slice A 1 c] 28)).drew (some ⟨g0, 0, none⟩) [0, 0, 1, 0, 0, 0, 0, 1, 0, 1]) := hid p10
  have HR14 : Hid (RdB (w4.alloc (.cells #[.int .i64 1, .int .i64 1, .slice A 1 c] 28)).drew (some ⟨g0, 14, none⟩) [0, 40, 97, 97]) := hid p14
  have l05 := cell_below b5 l04
  obtain ⟨Gb, hGb⟩ : ∃ Gb, Gb = w4.heap.size := ⟨_, rfl⟩
  have sX : (w4.alloc (.cells #[.int .i64 1, .int .i64 1, .slice A 1 c] 28)).drew.cell? ⟨Gb, 0, none⟩ = some (.int .i64 1) ∧ (w4.alloc (.cells #[.int .i64 1, .int .i64 1, .slice A 1 c] 28)).drew.cell? ⟨Gb, 1, none⟩ = some (.int .i64 1) ∧ (w4.alloc (.cells #[.int .i64 1, .int .i64 1, .slice A 1 c] 28)).drew.cell? ⟨Gb, 2, none⟩ = some (.slice A 1 c) ∧ (w4.alloc (.cells #[.int .i64 1, .int .i64 1, .slice A 1 c] 28)).drew.cell? ⟨L, 0, none⟩ = some (.slice (some ⟨g0, 0, none⟩) 4096 c0) := by
    rw [hGb]
    exact ⟨q0, q1, q2, l05⟩
  clear hims hims2 him HR0 e1 e2 e3 hr0 p10 p14 l03 l04 l05 q0 q1 q2 hG b5 hd b15
  go_wp2_with fail
  rw [← hGb]
  clear hGb
  have hc10 : (10 : Int) ≤ (c0 : Int) := by omega
  have hc18 : (18 : Int) ≤ (c0 : Int) := by omega
  have hc0 : ¬ c0 = 0 := by omega
  have hc14 : ¬ c0 = 14 := by omega
  have hc14b : ¬ c0 - 14 = 0 := by omega
  refine wp_region_held_drew (S := fun W1 => W1.cell? ⟨Gb, 0, none⟩ = some (.int .i64 1) ∧ W1.cell? ⟨Gb, 1, none⟩ = some (.int .i64 1) ∧ W1.cell? ⟨Gb, 2, none⟩ = some (.slice A 1 c) ∧ W1.cell? ⟨L, 0, none⟩ = some (.slice (some ⟨g0, 0, none⟩) 4096 c0)) (by kernel_rfl) (by exact sX) (fun hHeld => ?_)
  refine wpAnyH_take (i := 0) (oi := ?o0z1) (v := ?v0z1) ?hi0z1 (by kernel_rfl) (by kernel_rfl) ?hr0z1 ?hQ0z1 ?hy0z1 hHeld ?r0z1
  case hi0z1 => (simp only [List.getElem?_toArray, List.getElem?_cons_zero, List.getElem?_cons_succ]; rfl)
  case hr0z1 => kernel_rfl
  case hQ0z1 => exact fun _ _ _ h => h
  case hy0z1 => (refine Or.inl ⟨by rfl, ?_⟩; intro w hSw; (try dsimp only at hSw); go_simp; try with_reducible rfl)
  try simp only [Act.put, List.setIfInBounds_toArray, List.set_cons_zero, List.set_cons_succ]
  refine wpAnyH_take (i := 1) (oi := ?o1z1) (v := ?v1z1) ?hi1z1 (by kernel_rfl) (by kernel_rfl) ?hr1z1 ?hQ1z1 ?hy1z1 hHeld ?r1z1
  case hi1z1 => (simp only [List.getElem?_toArray, List.getElem?_cons_zero, List.getElem?_cons_succ]; rfl)
  case hr1z1 => kernel_rfl
  case hQ1z1 => exact fun _ _ _ h => h
  case hy1z1 => (refine Or.inl ⟨by rfl, ?_⟩; intro w hSw; (try dsimp only at hSw); go_simp; try with_reducible rfl)
  try simp only [Act.put, List.setIfInBounds_toArray, List.set_cons_zero, List.set_cons_succ]
  refine wpAnyH_take (i := 2) (oi := ?o2z1) (v := ?v2z1) ?hi2z1 (by kernel_rfl) (by kernel_rfl) ?hr2z1 ?hQ2z1 ?hy2z1 hHeld ?r2z1
  case hi2z1 => (simp only [List.getElem?_toArray, List.getElem?_cons_zero, List.getElem?_cons_succ]; rfl)
  case hr2z1 => kernel_rfl
  case hQ2z1 => exact fun _ _ _ h => h
  case hy2z1 => (refine Or.inl ⟨by rfl, ?_⟩; intro w hSw; (try dsimp only at hSw); go_simp; try with_reducible rfl)
  try simp only [Act.put, List.setIfInBounds_toArray, List.set_cons_zero, List.set_cons_succ]
  refine wpAnyH_take (i := 3) (oi := ?o3z1) (v := ?v3z1) ?hi3z1 (by kernel_rfl) (by kernel_rfl) ?hr3z1 ?hQ3z1 ?hy3z1 hHeld ?r3z1
  case hi3z1 => (simp only [List.getElem?_toArray, List.getElem?_cons_zero, List.getElem?_cons_succ]; rfl)
  case hr3z1 => kernel_rfl
  case hQ3z1 => exact fun _ _ _ h => h
  case hy3z1 => (refine Or.inl ⟨by rfl, ?_⟩; intro w hSw; (try dsimp only at hSw); go_simp; try with_reducible rfl)
  try simp only [Act.put, List.setIfInBounds_toArray, List.set_cons_zero, List.set_cons_succ]
  refine wpAnyH_ready (rs := [4]) (by kernel_rfl) (by simp) (AllReadyH.cons (o := ?o4z1) ?hi4z1 (fun K hK => ?r4z1) AllReadyH.nil)
  case hi4z1 => (simp only [List.getElem?_toArray, List.getElem?_cons_zero, List.getElem?_cons_succ]; rfl)
  go_simp
  refine (one_any _).mono ?_
  rintro e w7 ⟨g7, rfl, hg7, b7⟩
  have s7 := And.intro (cell_below b7 sX.1) (And.intro (cell_below b7 sX.2.1) (And.intro (cell_below b7 sX.2.2.1) (cell_below b7 sX.2.2.2)))
  have SG := SameGroup_any w7 1 1 1 1 A (some ⟨g7, 0, none⟩) c 1 1 1 oneI oneI rfl rfl (by decide) (HIM.out.below b7) hg7
  rw [show decide ((1 : Int) = 1 ∧ (1 : Int) = 1 ∧ oneI = oneI) = true from decide_eq_true ⟨rfl, rfl, rfl⟩] at SG
  clear hg7
  refine hK.out _ _ (by exact s7) (fun hHeld => ?_)
  clear hK K
  try simp only [Act.put, List.setIfInBounds_toArray, List.set_cons_zero, List.set_cons_succ]
  refine wpAnyH_ready (rs := [5]) (by kernel_rfl) (by simp) (AllReadyH.cons (o := ?o5z1) ?hi5z1 (fun K hK => ?r5z1) AllReadyH.nil)
  case hi5z1 => (simp only [List.getElem?_toArray, List.getElem?_cons_zero, List.getElem?_cons_succ]; rfl)
  go_simp
  refine SG.mono ?_
  rintro e w8 ⟨rfl, b8⟩
  have s8 := And.intro (cell_below b8 s7.1) (And.intro (cell_below b8 s7.2.1) (And.intro (cell_below b8 s7.2.2.1) (cell_below b8 s7.2.2.2)))
  have b78 := b7.trans (b8.mono b7.size)
  have b9 : Below w8.heap.size w8 (w8.alloc (.cells #[.int .u8 0, .int .u8 0, .int .u8 1, .int .u8 0, .int .u8 0, .int .u8 0, .int .u8 0, .int .u8 1, .int .u8 0, .int .u8 1] 5)) := (Below.refl _ _).alloc (Nat.le_refl _) _
  have b79 := b78.trans (b9.mono b78.size)
  have s9 := And.intro (cell_below b9 s8.1) (And.intro (cell_below b9 s8.2.1) (And.intro (cell_below b9 s8.2.2.1) (cell_below b9 s8.2.2.2)))
  have SB1 := SameBytes_any (w8.alloc (.cells #[.int .u8 0, .int .u8 0, .int .u8 1, .int .u8 0, .int .u8 0, .int .u8 0, .int .u8 0, .int .u8 1, .int .u8 0, .int .u8 1] 5)) (some ⟨g0, 0, none⟩) (some ⟨w8.heap.size, 0, none⟩) c0 10 10 10 [0, 0, 1, 0, 0, 0, 0, 1, 0, 1] [0, 0, 1, 0, 0, 0, 0, 1, 0, 1] rfl rfl (HR10.out.below b79) (RdB.lit w8 _ _ _ rfl (by simp))
  rw [show (([0, 0, 1, 0, 0, 0, 0, 1, 0, 1] : List UInt8) == [0, 0, 1, 0, 0, 0, 0, 1, 0, 1]) = true by decide] at SB1
  obtain ⟨w9, hw9⟩ : ∃ w9, w9 = w8.alloc (.cells #[.int .u8 0, .int .u8 0, .int .u8 1, .int .u8 0, .int .u8 0, .int .u8 0, .int .u8 0, .int .u8 1, .int .u8 0, .int .u8 1] 5) := ⟨_, rfl⟩
  rw [← hw9] at b79 s9 SB1
  have HW9 := hid hw9
  clear hw9 b9
  have b10 : Below w9.heap.size w9 (w9.alloc (.cells #[.int .u8 0, .int .u8 40, .int .u8 97, .int .u8 97] 5)) := (Below.refl _ _).alloc (Nat.le_refl _) _
  have b710 := b79.trans (b10.mono b79.size)
  have s10 := And.intro (cell_below b10 s9.1) (And.intro (cell_below b10 s9.2.1) (And.intro (cell_below b10 s9.2.2.1) (cell_below b10 s9.2.2.2)))
  have SB2 := SameBytes_any (w9.alloc (.cells #[.int .u8 0, .int .u8 40, .int .u8 97, .int .u8 97] 5)) (some ⟨g0, 14, none⟩) (some ⟨w9.heap.size, 0, none⟩) (c0 - 14) 4 4 4 [0, 40, 97, 97] [0, 40, 97, 97] rfl rfl (HR14.out.below b710) (RdB.lit w9 _ _ _ rfl (by simp))
  rw [show (([0, 40, 97, 97] : List UInt8) == [0, 40, 97, 97]) = true by decide] at SB2
  clear b10
  refine hK.out _ _ (by exact s8) (fun hHeld => ?_)
  clear hK K
  try simp only [Act.put, List.setIfInBounds_toArray, List.set_cons_zero, List.set_cons_succ]
  refine wpAnyH_take (i := 6) (oi := ?o6z1) (v := ?v6z1) ?hi6z1 (by kernel_rfl) (by kernel_rfl) ?hr6z1 ?hQ6z1 ?hy6z1 hHeld ?r6z1
  case hi6z1 => (simp only [List.getElem?_toArray, List.getElem?_cons_zero, List.getElem?_cons_succ]; rfl)
  case hr6z1 => kernel_rfl
  case hQ6z1 => exact fun _ _ _ h => h
  case hy6z1 => (refine Or.inl ⟨by rfl, ?_⟩; intro w hSw; (try dsimp only at hSw); go_simp; try with_reducible rfl)
  try simp only [Act.put, List.setIfInBounds_toArray, List.set_cons_zero, List.set_cons_succ]
  refine wpAnyH_take (i := 7) (oi := ?o7z1) (v := ?v7z1) ?hi7z1 (by kernel_rfl) (by kernel_rfl) ?hr7z1 ?hQ7z1 ?hy7z1 hHeld ?r7z1
  case hi7z1 => (simp only [List.getElem?_toArray, List.getElem?_cons_zero, List.getElem?_cons_succ]; rfl)
  case hr7z1 => kernel_rfl
  case hQ7z1 => exact fun _ _ _ h => h
  case hy7z1 => (refine Or.inl ⟨by rfl, ?_⟩; intro w hSw; (try dsimp only at hSw); go_simp; try with_reducible rfl)
  try simp only [Act.put, List.setIfInBounds_toArray, List.set_cons_zero, List.set_cons_succ]
  refine wpAnyH_take (i := 8) (oi := ?o8z1) (v := ?v8z1) ?hi8z1 (by kernel_rfl) (by kernel_rfl) ?hr8z1 ?hQ8z1 ?hy8z1 hHeld ?r8z1
  case hi8z1 => (simp only [List.getElem?_toArray, List.getElem?_cons_zero, List.getElem?_cons_succ]; rfl)
  case hr8z1 => kernel_rfl
  case hQ8z1 => exact fun _ _ _ h => h
  case hy8z1 => (refine Or.inl ⟨by rfl, ?_⟩; intro w hSw; (try dsimp only at hSw); go_simp; try with_reducible rfl)
  try simp only [Act.put, List.setIfInBounds_toArray, List.set_cons_zero, List.set_cons_succ]
  refine wpAnyH_take (i := 9) (oi := ?o9z1) (v := ?v9z1) ?hi9z1 (by kernel_rfl) (by kernel_rfl) ?hr9z1 ?hQ9z1 ?hy9z1 hHeld ?r9z1
  case hi9z1 => (simp only [List.getElem?_toArray, List.getElem?_cons_zero, List.getElem?_cons_succ]; rfl)
  case hr9z1 => kernel_rfl
  case hQ9z1 => exact fun _ _ _ h => h
  case hy9z1 => (refine Or.inl ⟨by rfl, ?_⟩; intro w hSw; (try dsimp only at hSw); go_simp; try with_reducible rfl)
  try simp only [Act.put, List.setIfInBounds_toArray, List.set_cons_zero, List.set_cons_succ]
  refine wpAnyH_take (i := 10) (oi := ?o10z1) (v := ?v10z1) ?hi10z1 (by kernel_rfl) (by kernel_rfl) ?hr10z1 ?hQ10z1 ?hy10z1 hHeld ?r10z1
  case hi10z1 => (simp only [List.getElem?_toArray, List.getElem?_cons_zero, List.getElem?_cons_succ]; rfl)
  case hr10z1 => kernel_rfl
  case hQ10z1 => exact fun _ _ _ h => h
  case hy10z1 => (refine Or.inl ⟨by rfl, ?_⟩; intro w hSw; (try dsimp only at hSw); go_simp; try with_reducible rfl)
  try simp only [Act.put, List.setIfInBounds_toArray, List.set_cons_zero, List.set_cons_succ]
  refine wpAnyH_take (i := 11) (oi := ?o11z1) (v := ?v11z1) ?hi11z1 (by kernel_rfl) (by kernel_rfl) ?hr11z1 ?hQ11z1 ?hy11z1 hHeld ?r11z1
  case hi11z1 => (simp only [List.getElem?_toArray, List.getElem?_cons_zero, List.getElem?_cons_succ]; rfl)
  case hr11z1 => kernel_rfl
  case hQ11z1 => exact fun _ _ _ h => h
  case hy11z1 => (refine Or.inl ⟨by rfl, ?_⟩; intro w hSw; (try dsimp only at hSw); go_simp; try with_reducible rfl)
  try simp only [Act.put, List.setIfInBounds_toArray, List.set_cons_zero, List.set_cons_succ]
  refine wpAnyH_take (i := 12) (oi := ?o12z1) (v := ?v12z1) ?hi12z1 (by kernel_rfl) (by kernel_rfl) ?hr12z1 ?hQ12z1 ?hy12z1 hHeld ?r12z1
  case hi12z1 => (simp only [List.getElem?_toArray, List.getElem?_cons_zero, List.getElem?_cons_succ]; rfl)
  case hr12z1 => kernel_rfl
  case hQ12z1 => exact fun _ _ _ h => h
  case hy12z1 => (refine Or.inl ⟨by rfl, ?_⟩; intro w hSw; (try dsimp only at hSw); go_simp; try with_reducible rfl)
  try simp only [Act.put, List.setIfInBounds_toArray, List.set_cons_zero, List.set_cons_succ]
  refine wpAnyH_take (i := 13) (oi := ?o13z1) (v := ?v13z1) ?hi13z1 (by kernel_rfl) (by kernel_rfl) ?hr13z1 ?hQ13z1 ?hy13z1 hHeld ?r13z1
  case hi13z1 => (simp only [List.getElem?_toArray, List.getElem?_cons_zero, List.getElem?_cons_succ]; rfl)
  case hr13z1 => kernel_rfl
  case hQ13z1 => exact fun _ _ _ h => h
  case hy13z1 => (refine Or.inl ⟨by rfl, ?_⟩; intro w hSw; (try dsimp only at hSw); go_simp; try with_reducible rfl)
  try simp only [Act.put, List.setIfInBounds_toArray, List.set_cons_zero, List.set_cons_succ]
  refine wpAnyH_take (i := 14) (oi := ?o14z1) (v := ?v14z1) ?hi14z1 (by kernel_rfl) (by kernel_rfl) ?hr14z1 ?hQ14z1 ?hy14z1 hHeld ?r14z1
  case hi14z1 => (simp only [List.getElem?_toArray, List.getElem?_cons_zero, List.getElem?_cons_succ]; rfl)
  case hr14z1 => kernel_rfl
  case hQ14z1 => exact fun _ _ _ h => h
  case hy14z1 => (refine Or.inl ⟨by rfl, ?_⟩; intro w hSw; (try dsimp only at hSw); go_simp; try with_reducible rfl)
  try simp only [Act.put, List.setIfInBounds_toArray, List.set_cons_zero, List.set_cons_succ]
  refine wpAnyH_take (i := 15) (oi := ?o15z1) (v := ?v15z1) ?hi15z1 (by kernel_rfl) (by kernel_rfl) ?hr15z1 ?hQ15z1 ?hy15z1 hHeld ?r15z1
  case hi15z1 => (simp only [List.getElem?_toArray, List.getElem?_cons_zero, List.getElem?_cons_succ]; rfl)
  case hr15z1 => kernel_rfl
  case hQ15z1 => exact fun _ _ _ h => h
  case hy15z1 => (refine Or.inl ⟨by rfl, ?_⟩; intro w hSw; (try dsimp only at hSw); go_simp; try with_reducible rfl)
  try simp only [Act.put, List.setIfInBounds_toArray, List.set_cons_zero, List.set_cons_succ]
  refine wpAnyH_take (i := 16) (oi := ?o16z1) (v := ?v16z1) ?hi16z1 (by kernel_rfl) (by kernel_rfl) ?hr16z1 ?hQ16z1 ?hy16z1 hHeld ?r16z1
  case hi16z1 => (simp only [List.getElem?_toArray, List.getElem?_cons_zero, List.getElem?_cons_succ]; rfl)
  case hr16z1 => kernel_rfl
  case hQ16z1 => exact fun _ _ _ h => h
  case hy16z1 => (refine Or.inl ⟨by rfl, ?_⟩; intro w hSw; (try dsimp only at hSw); go_simp; try with_reducible rfl)
  try simp only [Act.put, List.setIfInBounds_toArray, List.set_cons_zero, List.set_cons_succ]
  refine wpAnyH_take (i := 17) (oi := ?o17z1) (v := ?v17z1) ?hi17z1 (by kernel_rfl) (by kernel_rfl) ?hr17z1 ?hQ17z1 ?hy17z1 hHeld ?r17z1
  case hi17z1 => (simp only [List.getElem?_toArray, List.getElem?_cons_zero, List.getElem?_cons_succ]; rfl)
  case hr17z1 => kernel_rfl
  case hQ17z1 => exact fun _ _ _ h => h
  case hy17z1 => (refine Or.inl ⟨by rfl, ?_⟩; intro w hSw; (try dsimp only at hSw); go_simp; try with_reducible rfl)
  try simp only [Act.put, List.setIfInBounds_toArray, List.set_cons_zero, List.set_cons_succ]
  refine wpAnyH_take (i := 18) (oi := ?o18z1) (v := ?v18z1) ?hi18z1 (by kernel_rfl) (by kernel_rfl) ?hr18z1 ?hQ18z1 ?hy18z1 hHeld ?r18z1
  case hi18z1 => (simp only [List.getElem?_toArray, List.getElem?_cons_zero, List.getElem?_cons_succ]; rfl)
  case hr18z1 => kernel_rfl
  case hQ18z1 => exact fun _ _ _ h => h
  case hy18z1 => (refine Or.inl ⟨by rfl, ?_⟩; intro w hSw; (try dsimp only at hSw); go_simp; try with_reducible rfl)
  try simp only [Act.put, List.setIfInBounds_toArray, List.set_cons_zero, List.set_cons_succ]
  refine wpAnyH_take (i := 19) (oi := ?o19z1) (v := ?v19z1) ?hi19z1 (by kernel_rfl) (by kernel_rfl) ?hr19z1 ?hQ19z1 ?hy19z1 hHeld ?r19z1
  case hi19z1 => (simp only [List.getElem?_toArray, List.getElem?_cons_zero, List.getElem?_cons_succ]; rfl)
  case hr19z1 => kernel_rfl
  case hQ19z1 => exact fun _ _ _ h => h
  case hy19z1 => (refine Or.inl ⟨by rfl, ?_⟩; intro w hSw; (try dsimp only at hSw); go_simp; try with_reducible rfl)
  try simp only [Act.put, List.setIfInBounds_toArray, List.set_cons_zero, List.set_cons_succ]
  refine wpAnyH_take (i := 20) (oi := ?o20z1) (v := ?v20z1) ?hi20z1 (by kernel_rfl) (by kernel_rfl) ?hr20z1 ?hQ20z1 ?hy20z1 hHeld ?r20z1
  case hi20z1 => (simp only [List.getElem?_toArray, List.getElem?_cons_zero, List.getElem?_cons_succ]; rfl)
  case hr20z1 => kernel_rfl
  case hQ20z1 => exact fun _ _ _ h => h
  case hy20z1 => (refine Or.inl ⟨by rfl, ?_⟩; intro w hSw; (try dsimp only at hSw); go_simp; try with_reducible rfl)
  try simp only [Act.put, List.setIfInBounds_toArray, List.set_cons_zero, List.set_cons_succ]
  refine wpAnyH_take (i := 21) (oi := ?o21z1) (v := ?v21z1) ?hi21z1 (by kernel_rfl) (by kernel_rfl) ?hr21z1 ?hQ21z1 ?hy21z1 hHeld ?r21z1
  case hi21z1 => (simp only [List.getElem?_toArray, List.getElem?_cons_zero, List.getElem?_cons_succ]; rfl)
  case hr21z1 => kernel_rfl
  case hQ21z1 => exact fun _ _ _ h => h
  case hy21z1 => (refine Or.inl ⟨by rfl, ?_⟩; intro w hSw; (try dsimp only at hSw); go_simp; try with_reducible rfl)
  try simp only [Act.put, List.setIfInBounds_toArray, List.set_cons_zero, List.set_cons_succ]
  refine wpAnyH_take (i := 22) (oi := ?o22z1) (v := ?v22z1) ?hi22z1 (by kernel_rfl) (by kernel_rfl) ?hr22z1 ?hQ22z1 ?hy22z1 hHeld ?r22z1
  case hi22z1 => (simp only [List.getElem?_toArray, List.getElem?_cons_zero, List.getElem?_cons_succ]; rfl)
  case hr22z1 => kernel_rfl
  case hQ22z1 => exact fun _ _ _ h => h
  case hy22z1 => (refine Or.inl ⟨by rfl, ?_⟩; intro w hSw; (try dsimp only at hSw); go_simp; try with_reducible rfl)
  try simp only [Act.put, List.setIfInBounds_toArray, List.set_cons_zero, List.set_cons_succ]
  refine wpAnyH_take (i := 23) (oi := ?o23z1) (v := ?v23z1) ?hi23z1 (by kernel_rfl) (by kernel_rfl) ?hr23z1 ?hQ23z1 ?hy23z1 hHeld ?r23z1
  case hi23z1 => (simp only [List.getElem?_toArray, List.getElem?_cons_zero, List.getElem?_cons_succ]; rfl)
  case hr23z1 => kernel_rfl
  case hQ23z1 => exact fun _ _ _ h => h
  case hy23z1 => (refine Or.inl ⟨by rfl, ?_⟩; intro w hSw; (try dsimp only at hSw); go_simp; try with_reducible rfl)
  try simp only [Act.put, List.setIfInBounds_toArray, List.set_cons_zero, List.set_cons_succ]
  refine wpAnyH_take (i := 24) (oi := ?o24z1) (v := ?v24z1) ?hi24z1 (by kernel_rfl) (by kernel_rfl) ?hr24z1 ?hQ24z1 ?hy24z1 hHeld ?r24z1
  case hi24z1 => (simp only [List.getElem?_toArray, List.getElem?_cons_zero, List.getElem?_cons_succ]; rfl)
  case hr24z1 => kernel_rfl
  case hQ24z1 => exact fun _ _ _ h => h
  case hy24z1 => (refine Or.inl ⟨by rfl, ?_⟩; intro w hSw; (try dsimp only at hSw); go_simp; try with_reducible rfl)
  try simp only [Act.put, List.setIfInBounds_toArray, List.set_cons_zero, List.set_cons_succ]
  refine wpAnyH_take (i := 25) (oi := ?o25z1) (v := ?v25z1) ?hi25z1 (by kernel_rfl) (by kernel_rfl) ?hr25z1 ?hQ25z1 ?hy25z1 hHeld ?r25z1
  case hi25z1 => (simp only [List.getElem?_toArray, List.getElem?_cons_zero, List.getElem?_cons_succ]; rfl)
  case hr25z1 => kernel_rfl
  case hQ25z1 => exact fun _ _ _ h => h
  case hy25z1 => (refine Or.inl ⟨by rfl, ?_⟩; intro w hSw; (try dsimp only at hSw); go_simp; try with_reducible rfl)
  try simp only [Act.put, List.setIfInBounds_toArray, List.set_cons_zero, List.set_cons_succ]
  refine wpAnyH_take (i := 26) (oi := ?o26z1) (v := ?v26z1) ?hi26z1 (by kernel_rfl) (by kernel_rfl) ?hr26z1 ?hQ26z1 ?hy26z1 hHeld ?r26z1
  case hi26z1 => (simp only [List.getElem?_toArray, List.getElem?_cons_zero, List.getElem?_cons_succ]; rfl)
  case hr26z1 => kernel_rfl
  case hQ26z1 => exact fun _ _ _ h => h
  case hy26z1 => (refine Or.inl ⟨by rfl, ?_⟩; intro w hSw; (try dsimp only at hSw); go_simp; try with_reducible rfl)
  try simp only [Act.put, List.setIfInBounds_toArray, List.set_cons_zero, List.set_cons_succ]
  refine wpAnyH_ready (rs := [27]) (by kernel_rfl) (by simp) (AllReadyH.cons (o := ?o27z1) ?hi27z1 (fun K hK => ?r27z1) AllReadyH.nil)
  case hi27z1 => (simp only [List.getElem?_toArray, List.getElem?_cons_zero, List.getElem?_cons_succ]; rfl)
  go_simp
  rw [← HW9.out]
  refine hK.out _ _ (by exact s9) (fun hHeld => ?_)
  clear hK K
  try simp only [Act.put, List.setIfInBounds_toArray, List.set_cons_zero, List.set_cons_succ]
  refine wpAnyH_ready (rs := [28]) (by kernel_rfl) (by simp) (AllReadyH.cons (o := ?o28z1) ?hi28z1 (fun K hK => ?r28z1) AllReadyH.nil)
  case hi28z1 => (simp only [List.getElem?_toArray, List.getElem?_cons_zero, List.getElem?_cons_succ]; rfl)
  go_simp
  refine SB1.mono ?_
  rintro e w' ⟨rfl, rfl⟩
  refine hK.out _ _ (by exact s9) (fun hHeld => ?_)
  clear hK K
  try simp only [Act.put, List.setIfInBounds_toArray, List.set_cons_zero, List.set_cons_succ]
  refine wpAnyH_take (i := 29) (oi := ?o29z1) (v := ?v29z1) ?hi29z1 (by kernel_rfl) (by kernel_rfl) ?hr29z1 ?hQ29z1 ?hy29z1 hHeld ?r29z1
  case hi29z1 => (simp only [List.getElem?_toArray, List.getElem?_cons_zero, List.getElem?_cons_succ]; rfl)
  case hr29z1 => kernel_rfl
  case hQ29z1 => exact fun _ _ _ h => h
  case hy29z1 => (refine Or.inl ⟨by rfl, ?_⟩; intro w hSw; (try dsimp only at hSw); go_simp; try with_reducible rfl)
  try simp only [Act.put, List.setIfInBounds_toArray, List.set_cons_zero, List.set_cons_succ]
  refine wpAnyH_take (i := 30) (oi := ?o30z1) (v := ?v30z1) ?hi30z1 (by kernel_rfl) (by kernel_rfl) ?hr30z1 ?hQ30z1 ?hy30z1 hHeld ?r30z1
  case hi30z1 => (simp only [List.getElem?_toArray, List.getElem?_cons_zero, List.getElem?_cons_succ]; rfl)
  case hr30z1 => kernel_rfl
  case hQ30z1 => exact fun _ _ _ h => h
  case hy30z1 => (refine Or.inl ⟨by rfl, ?_⟩; intro w hSw; (try dsimp only at hSw); go_simp; try with_reducible rfl)
  try simp only [Act.put, List.setIfInBounds_toArray, List.set_cons_zero, List.set_cons_succ]
  refine wpAnyH_take (i := 31) (oi := ?o31z1) (v := ?v31z1) ?hi31z1 (by kernel_rfl) (by kernel_rfl) ?hr31z1 ?hQ31z1 ?hy31z1 hHeld ?r31z1
  case hi31z1 => (simp only [List.getElem?_toArray, List.getElem?_cons_zero, List.getElem?_cons_succ]; rfl)
  case hr31z1 => kernel_rfl
  case hQ31z1 => exact fun _ _ _ h => h
  case hy31z1 => (refine Or.inl ⟨by rfl, ?_⟩; intro w hSw; (try dsimp only at hSw); go_simp; try with_reducible rfl)
  try simp only [Act.put, List.setIfInBounds_toArray, List.set_cons_zero, List.set_cons_succ]
  refine wpAnyH_take (i := 32) (oi := ?o32z1) (v := ?v32z1) ?hi32z1 (by kernel_rfl) (by kernel_rfl) ?hr32z1 ?hQ32z1 ?hy32z1 hHeld ?r32z1
  case hi32z1 => (simp only [List.getElem?_toArray, List.getElem?_cons_zero, List.getElem?_cons_succ]; rfl)
  case hr32z1 => kernel_rfl
  case hQ32z1 => exact fun _ _ _ h => h
  case hy32z1 => (refine Or.inl ⟨by rfl, ?_⟩; intro w hSw; (try dsimp only at hSw); go_simp; try with_reducible rfl)
  try simp only [Act.put, List.setIfInBounds_toArray, List.set_cons_zero, List.set_cons_succ]
  refine wpAnyH_take (i := 33) (oi := ?o33z1) (v := ?v33z1) ?hi33z1 (by kernel_rfl) (by kernel_rfl) ?hr33z1 ?hQ33z1 ?hy33z1 hHeld ?r33z1
  case hi33z1 => (simp only [List.getElem?_toArray, List.getElem?_cons_zero, List.getElem?_cons_succ]; rfl)
  case hr33z1 => kernel_rfl
  case hQ33z1 => exact fun _ _ _ h => h
  case hy33z1 => (refine Or.inl ⟨by rfl, ?_⟩; intro w hSw; (try dsimp only at hSw); go_simp; try with_reducible rfl)
  try simp only [Act.put, List.setIfInBounds_toArray, List.set_cons_zero, List.set_cons_succ]
  refine wpAnyH_take (i := 34) (oi := ?o34z1) (v := ?v34z1) ?hi34z1 (by kernel_rfl) (by kernel_rfl) ?hr34z1 ?hQ34z1 ?hy34z1 hHeld ?r34z1
  case hi34z1 => (simp only [List.getElem?_toArray, List.getElem?_cons_zero, List.getElem?_cons_succ]; rfl)
  case hr34z1 => kernel_rfl
  case hQ34z1 => exact fun _ _ _ h => h
  case hy34z1 => (refine Or.inl ⟨by rfl, ?_⟩; intro w hSw; (try dsimp only at hSw); go_simp; try with_reducible rfl)
  try simp only [Act.put, List.setIfInBounds_toArray, List.set_cons_zero, List.set_cons_succ]
  refine wpAnyH_ready (rs := [35]) (by kernel_rfl) (by simp) (AllReadyH.cons (o := ?o35z1) ?hi35z1 (fun K hK => ?r35z1) AllReadyH.nil)
  case hi35z1 => (simp only [List.getElem?_toArray, List.getElem?_cons_zero, List.getElem?_cons_succ]; rfl)
  go_simp
  refine hK.out _ _ (by exact s10) (fun hHeld => ?_)
  clear hK K
  try simp only [Act.put, List.setIfInBounds_toArray, List.set_cons_zero, List.set_cons_succ]
  refine wpAnyH_ready (rs := [36]) (by kernel_rfl) (by simp) (AllReadyH.cons (o := ?o36z1) ?hi36z1 (fun K hK => ?r36z1) AllReadyH.nil)
  case hi36z1 => (simp only [List.getElem?_toArray, List.getElem?_cons_zero, List.getElem?_cons_succ]; rfl)
  go_simp
  refine SB2.mono ?_
  rintro e w' ⟨rfl, rfl⟩
  refine hK.out _ _ (by exact s10) (fun hHeld => ?_)
  clear hK K
  try simp only [Act.put, List.setIfInBounds_toArray, List.set_cons_zero, List.set_cons_succ]
  refine wpAnyH_take (i := 37) (oi := ?o37z1) (v := ?v37z1) ?hi37z1 (by kernel_rfl) (by kernel_rfl) ?hr37z1 ?hQ37z1 ?hy37z1 hHeld ?r37z1
  case hi37z1 => (simp only [List.getElem?_toArray, List.getElem?_cons_zero, List.getElem?_cons_succ]; rfl)
  case hr37z1 => kernel_rfl
  case hQ37z1 => exact fun _ _ _ h => h
  case hy37z1 => (refine Or.inl ⟨by rfl, ?_⟩; intro w hSw; (try dsimp only at hSw); go_simp; try with_reducible rfl)
  try simp only [Act.put, List.setIfInBounds_toArray, List.set_cons_zero, List.set_cons_succ]
  refine wpAnyH_take (i := 38) (oi := ?o38z1) (v := ?v38z1) ?hi38z1 (by kernel_rfl) (by kernel_rfl) ?hr38z1 ?hQ38z1 ?hy38z1 hHeld ?r38z1
  case hi38z1 => (simp only [List.getElem?_toArray, List.getElem?_cons_zero, List.getElem?_cons_succ]; rfl)
  case hr38z1 => kernel_rfl
  case hQ38z1 => exact fun _ _ _ h => h
  case hy38z1 => (refine Or.inl ⟨by rfl, ?_⟩; intro w hSw; (try dsimp only at hSw); go_simp; try with_reducible rfl)
  try simp only [Act.put, List.setIfInBounds_toArray, List.set_cons_zero, List.set_cons_succ]
  refine wpAnyH_done (by kernel_rfl) ?_ _
  go_wp2
  go_ret
  exact ⟨rfl, (below_drw HB15.out).trans (b710.mono (below_drw HB15.out).size)⟩
end Go.Proofs.Ytknhfaplddgnlaa
