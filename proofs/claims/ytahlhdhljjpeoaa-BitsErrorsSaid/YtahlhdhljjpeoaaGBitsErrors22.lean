/- Texts joined: Errs, Frame2. -/
import Derived.Deep.Fields
import Derived.Lib.SmallJoins
import Derived.Test.YtahlhdhljjpeoaaGBitsErrors1
import Derived.Test.YtahlhdhljjpeoaaGBitsErrors5
import Derived.Test.YtahlhdhljjpeoaaGBitsErrors21
/- BitsErrors (printed by gen24q.py). -/
namespace Go.Proofs.Ytahlhdhljjpeoaa
open Go.RowKit
set_option maxHeartbeats 3200000
set_option maxRecDepth 100000
set_option linter.unusedVariables false
set_option linter.unusedSimpArgs false

theorem fr_in (n : Nat) (h : n ≤ 41) : -9223372036854775808 ≤ (n : Int) ∧ (n : Int) ≤ 9223372036854775807 := by omega
theorem iX1 : (⟨1, 1, 0, 0, []⟩ : Ind).in_ := ⟨by decide, by decide, by decide, by decide, by decide, fun k hk => absurd hk (Nat.not_lt_zero k)⟩
theorem i0in : i0.in_ := ⟨by decide, by decide, by decide, by decide, by decide, fun k hk => absurd hk (Nat.not_lt_zero k)⟩
theorem lay_of (ns : List Int) (h : ns.length = 7) {p : Int → Prop} (hb : ∀ n ∈ ns, p n) : ∃ l : Lay, Value.agg (ns.map (Value.int .i64)).toArray = l.val ∧ True := by
  match ns, h with
  | [a, b, c, d, e, f, g], _ => exact ⟨⟨a, b, c, d, e, f, g⟩, rfl, trivial⟩
theorem Errors_any (w : World) (left n : Int) (hl : -9223372036854775808 ≤ left ∧ left ≤ 9223372036854775807) (hn : -9223372036854775808 ≤ n ∧ n ≤ 9223372036854775807) (l : Lay) :
    Calls Try.prog 7 #[.int .i64 left, .int .i64 n, l.val] w fun e w' => e = .returned (.bool true) ∧ Below w.heap.size w w' := by
  have AW := fun W => awake24_any W
  have SPC := fun W => space_any W 64 (by omega) (by omega)
  simp only [show ((64 : Nat) : Int) = 64 from rfl, ofL64, L64, Lay.val] at SPC
  have PK1 := fun (W : World) => Pick_any W n 41 hn (by omega) (by omega)
  have PK2 := fun (W : World) => Pick_any W left 7 hl (by omega) (by omega)
  simp only [show ((41 : Nat) : Int) = 41 from rfl, show ((7 : Nat) : Int) = 7 from rfl] at PK1 PK2
  have RR := fun W => layRefRight_any W l
  have WU := fun (base : Nat) (W : World) (P : Nat) (S : Nat → Prop) (d : Pl) (h : IsPl QT base W P S d) (h0 : -1000 ≤ d.left) (hR : rightL l = false) => Used_is W P h (by omega) l (fun e => by rw [hR] at e; cases e)
  have WA := fun (base : Nat) (W : World) (P : Nat) (S : Nat → Prop) (d : Pl) (h : IsPl QT base W P S d) (hR : rightL l = false) => Alloc_wrong W P h l hR 1
  have WF := fun (base : Nat) (W : World) (P : Nat) (S : Nat → Prop) (d : Pl) (h : IsPl QT base W P S d) (hR : rightL l = false) => Free_wrong W P h l hR 30 1
  have WE := fun (base : Nat) (W : World) (P : Nat) (S : Nat → Prop) (d : Pl) (h : IsPl QT base W P S d) (hR : rightL l = false) => Empty_no W P h l hR
  have UD := fun (d : Pl) (hR : rightL l = false) => show usedE d l = 2 ∧ usedD d l = d ∧ usedU d l = [] from by
    have e : usedE d l = 2 := by unfold usedE; rw [hR, if_neg (by decide)]
    exact ⟨e, by unfold usedD; rw [hR, if_neg (by decide)], by unfold usedU; rw [e, if_neg (by decide)]⟩
  have HWU := hid WU; have HWA := hid WA; have HWF := hid WF; have HWE := hid WE; have HUD := hid UD; have HRR := hid RR; have HAW := hid AW
  clear WU WA WF WE UD RR AW hl hn
  obtain ⟨rt, hrt⟩ : ∃ rt, rt = rightL l := ⟨_, rfl⟩
  have HRT := hid hrt
  simp only [← hrt] at HRR
  clear hrt
  obtain ⟨l0, l1, l2, l3, l4, l5, l6⟩ := l
  unfold AllocPost at HWA
  simp only [spV, Lay.val] at HWU HWA HWF HWE HRR ⊢
  have rA := heap_alloc_new w (.cells #[.int .i64 l0, .int .i64 l1, .int .i64 l2, .int .i64 l3, .int .i64 l4, .int .i64 l5, .int .i64 l6] 39)
  have bA : Below w.heap.size w (w.alloc (.cells #[.int .i64 l0, .int .i64 l1, .int .i64 l2, .int .i64 l3, .int .i64 l4, .int .i64 l5, .int .i64 l6] 39)) := (Below.refl _ _).alloc (Nat.le_refl _) _
  obtain ⟨wA, hwA⟩ : ∃ wA, wA = w.alloc (.cells #[.int .i64 l0, .int .i64 l1, .int .i64 l2, .int .i64 l3, .int .i64 l4, .int .i64 l5, .int .i64 l6] 39) := ⟨_, rfl⟩
  rw [← hwA] at rA bA
  have SPC := SPC wA
  have HWA0 := hid hwA; have RA0 := hid rA; have HBA := hid bA
  rw [hwA] at SPC
  clear hwA rA bA
  go_enter Try.func7, Try.ntmps7
  go_wp2_with fail
  refine SPC.mono ?_
  rw [← HWA0.out]
  rintro e v0 ⟨P, S0, rfl, i, b⟩
  clear SPC
  have b1 : Below v0.heap.size v0 (v0.alloc (.cells #[.int .i64 64, .int .i64 2, .int .i64 16, .int .i64 18, .int .i64 19, .int .i64 4, .int .i64 23] 39)) := (Below.refl _ _).alloc (Nat.le_refl _) _
  have b2 : Below (v0.alloc (.cells #[.int .i64 64, .int .i64 2, .int .i64 16, .int .i64 18, .int .i64 19, .int .i64 4, .int .i64 23] 39)).heap.size (v0.alloc (.cells #[.int .i64 64, .int .i64 2, .int .i64 16, .int .i64 18, .int .i64 19, .int .i64 4, .int .i64 23] 39)) ((v0.alloc (.cells #[.int .i64 64, .int .i64 2, .int .i64 16, .int .i64 18, .int .i64 19, .int .i64 4, .int .i64 23] 39)).alloc (.cells #[.int .u8 1, .int .i64 1, .int .i64 0, .slice none 0 0, .int .i64 0] 54)) := (Below.refl _ _).alloc (Nat.le_refl _) _
  have hz1 : (v0.alloc (.cells #[.int .i64 64, .int .i64 2, .int .i64 16, .int .i64 18, .int .i64 19, .int .i64 4, .int .i64 23] 39)).heap.size = v0.heap.size + 1 := by simp
  have rL := (b2.block _ (by simp)).trans (heap_alloc_new v0 (.cells #[.int .i64 64, .int .i64 2, .int .i64 16, .int .i64 18, .int .i64 19, .int .i64 4, .int .i64 23] 39))
  have rX := heap_alloc_new (v0.alloc (.cells #[.int .i64 64, .int .i64 2, .int .i64 16, .int .i64 18, .int .i64 19, .int .i64 4, .int .i64 23] 39)) (.cells #[.int .u8 1, .int .i64 1, .int .i64 0, .slice none 0 0, .int .i64 0] 54)
  rw [hz1] at rX
  have b12 := b1.trans (b2.mono b1.size)
  have bA2 := b.trans (b12.mono b.size)
  obtain ⟨w2, hw2⟩ : ∃ w2, w2 = (v0.alloc (.cells #[.int .i64 64, .int .i64 2, .int .i64 16, .int .i64 18, .int .i64 19, .int .i64 4, .int .i64 23] 39)).alloc (.cells #[.int .u8 1, .int .i64 1, .int .i64 0, .slice none 0 0, .int .i64 0] 54) := ⟨_, rfl⟩
  rw [← hw2] at b12 bA2 rL rX
  have rA2 := (bA2.block _ (heap_in RA0.out)).trans RA0.out
  obtain ⟨RW, hRW⟩ : ∃ RW : List (Nat × Array Value × TypeId), RW = [(w.heap.size, #[.int .i64 l0, .int .i64 l1, .int .i64 l2, .int .i64 l3, .int .i64 l4, .int .i64 l5, .int .i64 l6], 39), (v0.heap.size, #[.int .i64 64, .int .i64 2, .int .i64 16, .int .i64 18, .int .i64 19, .int .i64 4, .int .i64 23], 39), (v0.heap.size + 1, #[.int .u8 1, .int .i64 1, .int .i64 0, .slice none 0 0, .int .i64 0], 54)] := ⟨_, rfl⟩
  have st2 : StR wA RW w2 P S0 (spD 64) := ⟨i.below b12, bA2, fun x hx => by
    rw [hRW] at hx
    simp only [List.mem_cons, List.not_mem_nil, or_false] at hx
    rcases hx with rfl | rfl | rfl
    · refine ⟨rA2, ?_, ?_, ?_⟩ <;> (dsimp only; decide)
    · refine ⟨rL, ?_, ?_, ?_⟩ <;> (dsimp only; decide)
    · refine ⟨rX, ?_, ?_, ?_⟩ <;> (dsimp only; decide)⟩
  have MA := hid (show (w.heap.size, #[.int .i64 l0, .int .i64 l1, .int .i64 l2, .int .i64 l3, .int .i64 l4, .int .i64 l5, .int .i64 l6], 39) ∈ RW by rw [hRW]; simp)
  have ML := hid (show (v0.heap.size, #[.int .i64 64, .int .i64 2, .int .i64 16, .int .i64 18, .int .i64 19, .int .i64 4, .int .i64 23], 39) ∈ RW by rw [hRW]; simp)
  have MX := hid (show (v0.heap.size + 1, #[.int .u8 1, .int .i64 1, .int .i64 0, .slice none 0 0, .int .i64 0], 54) ∈ RW by rw [hRW]; simp)
  have ST2 := hid st2; have HW2 := hid hw2
  have PK1 := PK1 w2
  have PK2 := PK2 w2
  rw [hw2] at PK1
  clear b1 b2 hz1 rL rX b12 bA2 hw2 rA2 st2 hRW i b
  go_wp2_with fail
  refine PK1.mono ?_
  rw [← HW2.out]
  rintro e w' ⟨⟨p, hp, rfl⟩, rfl⟩
  clear PK1
  go_wp2_with fail
  refine PK2.mono ?_
  rintro e w' ⟨⟨q, hq, rfl⟩, rfl⟩
  clear PK2 HW2
  obtain ⟨m, hm⟩ : ∃ m, m = 1 + p := ⟨_, rfl⟩
  have hcm : (1 : Int) + (p : Int) = (m : Int) := by omega
  have hm1 : 1 ≤ m := by omega
  have hm41 : m ≤ 41 := by omega
  rw [hcm]
  have bE : Below w2.heap.size w2 (w2.alloc (.cells #[] 3)) := (Below.refl _ _).alloc (Nat.le_refl _) _
  have STE := hid (ST2.out.below bE)
  clear hm hcm bE ST2
  go_wp2_with fail
  go_loopw [11, 12] (fun v11 v12 wr => ∃ (k : Nat) (d : Pl) (S : Nat → Prop) (u : List Bool), k ≤ 8 ∧ v12 = .int .i64 ((k : Nat) : Int) ∧ v11 = .slice (some ⟨w2.heap.size, 0, none⟩) 0 0 ∧ (k < 8 → Er u d (5 + 10 * k)) ∧ (u = em64 ∨ u = em1 m) ∧ (k = 0 → u = em64) ∧ -20 ≤ d.left ∧ d.left ≤ 20 ∧ d.did ≤ 5 + 10 * k ∧ StR wA RW wr P S d) (fun _ v12 _ => 8 - (intOf v12).toNat)
  case atStart => exact ⟨0, spD 64, S0, em64, by omega, rfl, rfl, fun _ => ⟨⟨_, sp64, okS_zeros _, lenI_zeros⟩, dn64.len, dn64.did⟩, .inl rfl, fun _ => rfl, by decide, by decide, dn64.did, STE.out⟩
  case round => as_aux_lemma =>
    obtain ⟨wo, rfl⟩ : ∃ wo : World, wo = wr := ⟨_, rfl⟩
    obtain ⟨k, d, S, u, hk, rfl, rfl, hEr, hu, hu0, hl1, hl2, hdd, hst⟩ := hrel
    clear STE
    by_cases hk8 : k < 8
    · as_aux_lemma =>
      have hEr := hEr hk8
      obtain ⟨q1, q2, f1, f2⟩ := hst.cellsP
      have st1 := hst.setEL true (q : Int) (by omega)
      obtain ⟨d1, hd1⟩ : ∃ d1, d1 = ({ d with ends := true, left := (q : Int) } : Pl) := ⟨_, rfl⟩
      have he1 : d1.ends = true := by rw [hd1]
      have hl1' : d1.left = (q : Int) := by rw [hd1]
      have er1 : Er u d1 (5 + 10 * k) := hEr.of_b (by rw [hd1]) (by rw [hd1]; exact hEr.did)
      rw [← hd1] at st1
      have ST1 := hid st1; have ER1 := hid er1; have HE1 := hid he1; have HL1 := hid hl1'; have HU := hid hu; have HU0 := hid hu0
      clear hd1 st1 er1 he1 hl1' hEr hst hl1 hl2 hdd hu hu0
      by_cases hk0 : k = 0
      · as_aux_lemma =>
        subst hk0
        have hu := HU0.out rfl
        subst hu
        obtain ⟨d', o, e1, er, lb, lt⟩ := ER1.out.alc_on HE1.out hm1 hm41
        rw [HL1.out] at e1 lb lt
        have CC := Alloc_is ((wo.setCell ⟨P, 1, none⟩ (.bool true)).setCell ⟨P, 2, none⟩ (.int .i64 (q : Int))) P ST1.out.i (by have := HL1.out; omega) (Nat.le_trans ER1.out.did (by omega)) L64 ER1.out.bl (m : Int)
        rw [e1] at CC
        simp only [AllocPost, spV, Lay.val, L64] at CC
        obtain ⟨y0, y1, y2, y3, y4, y5, y6⟩ := cells7b (ST1.out.row ML.out)
        have ER := hid er; have HB2 := hid (And.intro lb lt)
        clear e1 er lb lt
        go_wp2_with fail
        refine CC.mono ?_
        rintro e w3 ⟨⟨A, N, c, rfl, _, _⟩, S3, i3, k3, _⟩
        have ST3 := hid (ST1.out.kpt i3 k3)
        clear CC i3 k3
        clear y0 y1 y2 y3 y4 y5 y6
        have hx : ∃ u', (Er u' d' (5 + 10 * 0 + 1)) ∧ (u' = em64 ∨ u' = em1 m) := by
          rcases ER.out with h | h
          · exact ⟨em64, h, .inl rfl⟩
          · exact ⟨em1 m, h, .inr rfl⟩
        obtain ⟨u', er', hu'⟩ := hx
        have ER2 := hid (show Er u' d' (5 + 10 * (0 + 1)) from er'.of_b rfl (Nat.le_trans er'.did (by omega))); have HU2 := hid hu'; have HDD2 := hid (show d'.did ≤ 5 + 10 * (0 + 1) from Nat.le_trans er'.did (by omega))
        clear er' hu' ER
        by_cases hq2 : (q : Int) < 2
        · rw [if_pos hq2]
          go_wp2_with fail
          go_roundw
          case rel => exact ⟨0 + 1, d', S3, u', by omega, by go_num, rfl, fun _ => ER2.out, HU2.out, fun h => by omega, by have := HB2.out; omega, by have := HB2.out; omega, HDD2.out, ST3.out⟩
          case measure => simp [intOf]
        · rw [if_neg hq2]
          go_wp2_with fail
          go_roundw
          case rel => exact ⟨0 + 1, d', S3, u', by omega, by go_num, rfl, fun _ => ER2.out, HU2.out, fun h => by omega, by have := HB2.out; omega, by have := HB2.out; omega, HDD2.out, ST3.out⟩
          case measure => simp [intOf]
      by_cases hk1 : k = 1
      · as_aux_lemma =>
        subst hk1
        obtain ⟨r1, r2, g1, g2⟩ := ST1.out.cellsP
        have ST2 := hid (ST1.out.setE false)
        obtain ⟨d2, hd2⟩ : ∃ d2, d2 = ({ d1 with ends := false } : Pl) := ⟨_, rfl⟩
        rw [← hd2] at ST2
        have er2 : Er u d2 (5 + 10 * 1) := ER1.out.of_b (by rw [hd2]) (by rw [hd2]; exact ER1.out.did)
        have he2 : d2.ends = false := by rw [hd2]
        have hl2 : d2.left = (q : Int) := by rw [hd2]; exact HL1.out
        clear hd2
        obtain ⟨d3, E3, e3, er3, he3, hl3⟩ := er2.fre_off HU.out he2 hm1 hm41
        obtain ⟨d4, o4, E4, e4, er4, he4, hl4⟩ := er3.alc_off he3 hm1 hm41
        have C3 := Free_is (((wo.setCell ⟨P, 1, none⟩ (.bool true)).setCell ⟨P, 2, none⟩ (.int .i64 (q : Int))).setCell ⟨P, 1, none⟩ (.bool false)) P ST2.out.i (by omega) (Nat.le_trans er2.did (by omega)) L64 er2.bl 23 (m : Int) (by omega) (fr_in m hm41)
        rw [e3] at C3
        have C4 := fun (base : Nat) (W : World) (S' : Nat → Prop) (h : IsPl QT base W P S' d3) => Alloc_is W P h (by omega) (Nat.le_trans er3.did (by omega)) L64 er3.bl (m : Int)
        rw [e4] at C4
        simp only [AllocPost, spV, Lay.val, L64] at C3 C4
        obtain ⟨y0, y1, y2, y3, y4, y5, y6⟩ := cells7b (ST2.out.row ML.out)
        have HC4 := hid C4; have ER4 := hid er4; have HL4 := hid (hl4.trans (hl3.trans hl2))
        clear C4 er2 he2 hl2 e3 er3 he3 hl3 e4 er4 he4 hl4
        go_wp2_with fail
        refine C3.mono ?_
        rintro e w3 ⟨rfl, S3, i3, k3, _⟩
        have ST3 := hid (ST2.out.kpt i3 k3)
        clear C3 i3 k3 r1 r2 g1 g2 ST2
        clear y0 y1 y2 y3 y4 y5 y6
        obtain ⟨y0, y1, y2, y3, y4, y5, y6⟩ := cells7b (ST3.out.row ML.out)
        have C4 := HC4.out _ w3 S3 ST3.out.i
        clear HC4
        go_wp2_with fail
        refine C4.mono ?_
        rintro e w4 ⟨⟨A, N, c, rfl, _, _⟩, S4, i4, k4, _⟩
        have ST4 := hid (ST3.out.kpt i4 k4)
        clear C4 i4 k4 ST3
        clear y0 y1 y2 y3 y4 y5 y6
        obtain ⟨r1, r2, g1, g2⟩ := ST4.out.cellsP
        have ST5 := hid (ST4.out.setEL true (q : Int) (by omega))
        obtain ⟨d5, hd5⟩ : ∃ d5, d5 = ({ d4 with ends := true, left := (q : Int) } : Pl) := ⟨_, rfl⟩
        rw [← hd5] at ST5
        have er5 : Er (em1 m) d5 (5 + 10 * 1 + 1 + 1) := ER4.out.of_b (by rw [hd5]) (by rw [hd5]; exact ER4.out.did)
        have he5 : d5.ends = true := by rw [hd5]
        have hl5 : d5.left = (q : Int) := by rw [hd5]
        clear hd5
        obtain ⟨d', e1, er, lb, lt⟩ := er5.fre_on he5 hm1 hm41
        rw [hl5] at e1 lb lt
        have CC := Free_is ((w4.setCell ⟨P, 1, none⟩ (.bool true)).setCell ⟨P, 2, none⟩ (.int .i64 (q : Int))) P ST5.out.i (by omega) (Nat.le_trans er5.did (by omega)) L64 er5.bl 23 (m : Int) (by omega) (fr_in m hm41)
        rw [e1] at CC
        simp only [spV, Lay.val, L64] at CC
        obtain ⟨y0, y1, y2, y3, y4, y5, y6⟩ := cells7b (ST5.out.row ML.out)
        have ER := hid er; have HB2 := hid (And.intro lb lt)
        clear e1 er lb lt er5 he5 hl5
        go_wp2_with fail
        refine CC.mono ?_
        rintro e w6 ⟨rfl, S6, i6, k6, _⟩
        have ST6 := hid (ST5.out.kpt i6 k6)
        clear CC i6 k6 r1 r2 g1 g2 ST5 ST4
        clear y0 y1 y2 y3 y4 y5 y6
        have hx : ∃ u', (Er u' d' (5 + 10 * 1 + 1 + 1 + 1)) ∧ (u' = em64 ∨ u' = em1 m) := by
          rcases ER.out with h | h
          · exact ⟨em64, h, .inl rfl⟩
          · exact ⟨em1 m, h, .inr rfl⟩
        obtain ⟨u', er', hu'⟩ := hx
        have ER2 := hid (show Er u' d' (5 + 10 * (1 + 1)) from er'.of_b rfl (Nat.le_trans er'.did (by omega))); have HU2 := hid hu'; have HDD2 := hid (show d'.did ≤ 5 + 10 * (1 + 1) from Nat.le_trans er'.did (by omega))
        clear er' hu' ER
        by_cases hq2 : (q : Int) < 2
        · rw [if_pos hq2]
          go_wp2_with fail
          go_roundw
          case rel => exact ⟨1 + 1, d', S6, u', by omega, by go_num, rfl, fun _ => ER2.out, HU2.out, fun h => by omega, by have := HB2.out; omega, by have := HB2.out; omega, HDD2.out, ST6.out⟩
          case measure => simp [intOf]
        · rw [if_neg hq2]
          go_wp2_with fail
          go_roundw
          case rel => exact ⟨1 + 1, d', S6, u', by omega, by go_num, rfl, fun _ => ER2.out, HU2.out, fun h => by omega, by have := HB2.out; omega, by have := HB2.out; omega, HDD2.out, ST6.out⟩
          case measure => simp [intOf]
      by_cases hk2 : k = 2
      · as_aux_lemma =>
        subst hk2
        obtain ⟨s, hs⟩ : ∃ s, m = 1 + s := ⟨m - 1, by omega⟩
        obtain ⟨e4, e0, er, lb, lt⟩ := ER1.out.ino_on (s := s) HE1.out (by omega)
        rw [← hs] at e4 e0 er lb lt
        rw [HL1.out] at e4 e0 lb lt
        obtain ⟨d', hd'⟩ : ∃ d', d' = whD d1 L64 (m : Int) := ⟨_, rfl⟩
        rw [← hd'] at er lb lt
        have ER2 := hid (show Er u d' (5 + 10 * (2 + 1)) from er.of_b rfl (Nat.le_trans er.did (by omega))); have HU2 := HU; have HDD2 := hid (show d'.did ≤ 5 + 10 * (2 + 1) from Nat.le_trans er.did (by omega)); have HB2 := hid (And.intro lb lt)
        obtain ⟨y0, y1, y2, y3, y4, y5, y6⟩ := cells7b (ST1.out.row ML.out)
        by_cases hq2 : (q : Int) < 1
        · have hE := e4 hq2
          have CC := Inode_no ((wo.setCell ⟨P, 1, none⟩ (.bool true)).setCell ⟨P, 2, none⟩ (.int .i64 (q : Int))) P ST1.out.i (by have := HL1.out; omega) L64 (m : Int) (by omega) (by rw [hE]; decide)
          rw [hE, ← hd'] at CC
          simp only [spV, Lay.val, L64, Ind.val, indCells, List.length_nil] at CC
          clear e4 e0 er lb lt hE hd' hs
          go_wp2_with fail
          refine CC.mono ?_
          rintro e w3 ⟨rfl, i3, k3⟩
          have ST3 := hid (ST1.out.kpt i3 k3)
          clear CC i3 k3 y0 y1 y2 y3 y4 y5 y6
          go_wp2_with fail
          go_roundw
          case rel => exact ⟨2 + 1, d', S, u, by omega, by go_num, rfl, fun _ => ER2.out, HU2.out, fun h => by omega, by have := HB2.out; omega, by have := HB2.out; omega, HDD2.out, ST3.out⟩
          case measure => simp [intOf]
        · obtain ⟨hE, hG⟩ := e0 hq2
          have CC := Inode_yes ((wo.setCell ⟨P, 1, none⟩ (.bool true)).setCell ⟨P, 2, none⟩ (.int .i64 (q : Int))) P ST1.out.i (by have := HL1.out; omega) L64 (m : Int) (by omega) hE
          rw [hG, ← hd'] at CC
          generalize gotInd (inPart d1 L64 (m : Int)) = I at CC
          obtain ⟨ik, il, is, inn, dir⟩ := I
          simp only [spV, Lay.val, L64, Ind.val, indCells] at CC
          clear e4 e0 er lb lt hE hG hd' hs
          go_wp2_with fail
          refine CC.mono ?_
          rintro e w3 ⟨⟨A, c, rfl, _⟩, i3, k3⟩
          have ST3 := hid (ST1.out.kpt i3 k3)
          clear CC i3 k3 y0 y1 y2 y3 y4 y5 y6
          go_wp2_with fail
          go_roundw
          case rel => exact ⟨2 + 1, d', S, u, by omega, by go_num, rfl, fun _ => ER2.out, HU2.out, fun h => by omega, by have := HB2.out; omega, by have := HB2.out; omega, HDD2.out, ST3.out⟩
          case measure => simp [intOf]
      by_cases hk3 : k = 3
      · as_aux_lemma =>
        subst hk3
        obtain ⟨s, hs⟩ : ∃ s, m = 1 + s := ⟨m - 1, by omega⟩
        obtain ⟨d', e1, er, lb, lt⟩ := ER1.out.sei_on (s := s) HE1.out (by omega) ⟨1, 1, 0, 0, []⟩ (by decide)
        rw [← hs] at e1
        rw [HL1.out] at e1 lb lt
        have CC := SetInode_is ((wo.setCell ⟨P, 1, none⟩ (.bool true)).setCell ⟨P, 2, none⟩ (.int .i64 (q : Int))) P ST1.out.i (by have := HL1.out; omega) (Nat.le_trans ER1.out.did (by omega)) L64 ER1.out.bl (m : Int) (by omega) ⟨1, 1, 0, 0, []⟩ none 0 iX1 (RdX.nil _ _)
        rw [e1] at CC
        simp only [spV, Lay.val, L64, Ind.val, indCells, List.length_nil] at CC
        obtain ⟨y0, y1, y2, y3, y4, y5, y6⟩ := cells7b (ST1.out.row ML.out)
        obtain ⟨x0, x1, x2, x3, x4⟩ := five5 (ST1.out.row MX.out)
        have ER2 := hid (show Er u d' (5 + 10 * (3 + 1)) from er.of_b rfl (Nat.le_trans er.did (by omega))); have HU2 := HU; have HDD2 := hid (show d'.did ≤ 5 + 10 * (3 + 1) from Nat.le_trans er.did (by omega)); have HB2 := hid (And.intro lb lt)
        clear e1 er lb lt hs
        go_wp2_with fail
        refine CC.mono ?_
        rintro e w3 ⟨rfl, S3, i3, k3, _⟩
        have ST3 := hid (ST1.out.kpt i3 k3)
        clear CC i3 k3 x0 x1 x2 x3 x4
        clear y0 y1 y2 y3 y4 y5 y6
        by_cases hq2 : (q : Int) < 2
        · rw [if_pos hq2]
          go_wp2_with fail
          go_roundw
          case rel => exact ⟨3 + 1, d', S3, u, by omega, by go_num, rfl, fun _ => ER2.out, HU2.out, fun h => by omega, by have := HB2.out; omega, by have := HB2.out; omega, HDD2.out, ST3.out⟩
          case measure => simp [intOf]
        · rw [if_neg hq2]
          go_wp2_with fail
          go_roundw
          case rel => exact ⟨3 + 1, d', S3, u, by omega, by go_num, rfl, fun _ => ER2.out, HU2.out, fun h => by omega, by have := HB2.out; omega, by have := HB2.out; omega, HDD2.out, ST3.out⟩
          case measure => simp [intOf]
      by_cases hk4 : k = 4
      · as_aux_lemma =>
        subst hk4
        obtain ⟨r1, r2, g1, g2⟩ := ST1.out.cellsP
        have ST2 := hid (ST1.out.setE false)
        obtain ⟨d2, hd2⟩ : ∃ d2, d2 = ({ d1 with ends := false } : Pl) := ⟨_, rfl⟩
        rw [← hd2] at ST2
        have er2 : Er u d2 (5 + 10 * 4) := ER1.out.of_b (by rw [hd2]) (by rw [hd2]; exact ER1.out.did)
        have he2 : d2.ends = false := by rw [hd2]
        have hl2 : d2.left = (q : Int) := by rw [hd2]; exact HL1.out
        clear hd2
        obtain ⟨d3, I, e3, er3, s1, s2, s3, s4, s5, he3, hl3⟩ := er2.sei_off he2
        have C3 := SetInode_is (((wo.setCell ⟨P, 1, none⟩ (.bool true)).setCell ⟨P, 2, none⟩ (.int .i64 (q : Int))).setCell ⟨P, 1, none⟩ (.bool false)) P ST2.out.i (by omega) (Nat.le_trans er2.did (by omega)) L64 er2.bl 1 (by omega) i0 none 0 i0in (RdX.nil _ _)
        rw [e3] at C3
        simp only [spV, Lay.val, L64, i0, Ind.val, indCells, List.length_nil] at C3
        obtain ⟨y0, y1, y2, y3, y4, y5, y6⟩ := cells7b (ST2.out.row ML.out)
        have ER3 := hid er3; have HS1 := hid s1; have HS2 := hid s2; have HS3 := hid s3; have HS4 := hid s4; have HS5 := hid s5
        clear er2 he2 hl2 e3 er3 s1 s2 s3 s4 s5 he3 hl3
        go_wp2_with fail
        refine C3.mono ?_
        rintro e w4 ⟨rfl, S4, i4, k4, _⟩
        have ST4 := hid (ST2.out.kpt i4 k4)
        clear C3 i4 k4 r1 r2 g1 g2 ST2
        clear y0 y1 y2 y3 y4 y5 y6
        obtain ⟨r1, r2, g1, g2⟩ := ST4.out.cellsP
        have ST5 := hid (ST4.out.setEL true (q : Int) (by omega))
        obtain ⟨d5, hd5⟩ : ∃ d5, d5 = ({ d3 with ends := true, left := (q : Int) } : Pl) := ⟨_, rfl⟩
        rw [← hd5] at ST5
        have er5 : Er u d5 (5 + 10 * 4 + 1) := ER3.out.of_b (by rw [hd5]) (by rw [hd5]; exact ER3.out.did)
        have sp5 : Sp d5 L64 u I := HS1.out.of_b (by rw [hd5])
        have he5 : d5.ends = true := by rw [hd5]
        have hl5 : d5.left = (q : Int) := by rw [hd5]
        clear hd5
        obtain ⟨d', mm, e1, er, lb, lt⟩ := er5.new_on sp5 HS2.out HS3.out HS4.out HS5.out he5 ⟨1, 1, 0, 0, []⟩ (by decide)
        rw [hl5] at e1 lb lt
        have CC := NewInode_is ((w4.setCell ⟨P, 1, none⟩ (.bool true)).setCell ⟨P, 2, none⟩ (.int .i64 (q : Int))) P ST5.out.i (by omega) (Nat.le_trans er5.did (by omega)) L64 er5.bl ⟨1, 1, 0, 0, []⟩ none 0 iX1 (RdX.nil _ _)
        rw [e1] at CC
        simp only [spV, Lay.val, L64, Ind.val, indCells, List.length_nil] at CC
        obtain ⟨y0, y1, y2, y3, y4, y5, y6⟩ := cells7b (ST5.out.row ML.out)
        obtain ⟨x0, x1, x2, x3, x4⟩ := five5 (ST5.out.row MX.out)
        have ER2 := hid (show Er u d' (5 + 10 * (4 + 1)) from er.of_b rfl (Nat.le_trans er.did (by omega))); have HU2 := HU; have HDD2 := hid (show d'.did ≤ 5 + 10 * (4 + 1) from Nat.le_trans er.did (by omega)); have HB2 := hid (And.intro lb lt)
        clear e1 er lb lt er5 sp5 he5 hl5 HS1 HS2 HS3 HS4 HS5 ER3
        go_wp2_with fail
        refine CC.mono ?_
        rintro e w6 ⟨rfl, S6, i6, k6, _⟩
        have ST6 := hid (ST5.out.kpt i6 k6)
        clear CC i6 k6 r1 r2 g1 g2 ST5 ST4 x0 x1 x2 x3 x4
        clear y0 y1 y2 y3 y4 y5 y6
        by_cases hq2 : (q : Int) < 2
        · rw [if_pos hq2]
          go_wp2_with fail
          go_roundw
          case rel => exact ⟨4 + 1, d', S6, u, by omega, by go_num, rfl, fun _ => ER2.out, HU2.out, fun h => by omega, by have := HB2.out; omega, by have := HB2.out; omega, HDD2.out, ST6.out⟩
          case measure => simp [intOf]
        · rw [if_neg hq2]
          go_wp2_with fail
          go_roundw
          case rel => exact ⟨4 + 1, d', S6, u, by omega, by go_num, rfl, fun _ => ER2.out, HU2.out, fun h => by omega, by have := HB2.out; omega, by have := HB2.out; omega, HDD2.out, ST6.out⟩
          case measure => simp [intOf]
      by_cases hk5 : k = 5
      · as_aux_lemma =>
        subst hk5
        obtain ⟨d', a, b, e1, er, lb, lt⟩ := ER1.out.lef_on HE1.out (by have := HL1.out; omega)
        rw [HL1.out] at e1 lb lt
        have CC := Left_is ((wo.setCell ⟨P, 1, none⟩ (.bool true)).setCell ⟨P, 2, none⟩ (.int .i64 (q : Int))) P ST1.out.i (by have := HL1.out; omega) L64 ER1.out.bl
        rw [e1] at CC
        simp only [spV, Lay.val, L64] at CC
        obtain ⟨y0, y1, y2, y3, y4, y5, y6⟩ := cells7b (ST1.out.row ML.out)
        have ER2 := hid (show Er u d' (5 + 10 * (5 + 1)) from er.of_b rfl (Nat.le_trans er.did (by omega))); have HU2 := HU; have HDD2 := hid (show d'.did ≤ 5 + 10 * (5 + 1) from Nat.le_trans er.did (by omega)); have HB2 := hid (And.intro lb lt)
        clear e1 er lb lt
        go_wp2_with fail
        refine CC.mono ?_
        rintro e w3 ⟨rfl, i3, k3⟩
        have ST3 := hid (ST1.out.kpt i3 k3)
        clear CC i3 k3
        clear y0 y1 y2 y3 y4 y5 y6
        by_cases hq2 : (q : Int) < 5
        · rw [if_pos hq2]
          go_wp2_with fail
          go_roundw
          case rel => exact ⟨5 + 1, d', S, u, by omega, by go_num, rfl, fun _ => ER2.out, HU2.out, fun h => by omega, by have := HB2.out; omega, by have := HB2.out; omega, HDD2.out, ST3.out⟩
          case measure => simp [intOf]
        · rw [if_neg hq2]
          go_wp2_with fail
          go_roundw
          case rel => exact ⟨5 + 1, d', S, u, by omega, by go_num, rfl, fun _ => ER2.out, HU2.out, fun h => by omega, by have := HB2.out; omega, by have := HB2.out; omega, HDD2.out, ST3.out⟩
          case measure => simp [intOf]
      by_cases hk6 : k = 6
      · as_aux_lemma =>
        subst hk6
        obtain ⟨e1, er, lb, lt⟩ := ER1.out.use_on HE1.out
        rw [HL1.out] at e1 lb lt
        have CC := Used_is ((wo.setCell ⟨P, 1, none⟩ (.bool true)).setCell ⟨P, 2, none⟩ (.int .i64 (q : Int))) P ST1.out.i (by have := HL1.out; omega) L64 ER1.out.bl
        obtain ⟨d', hd'⟩ : ∃ d', d' = usedD d1 L64 := ⟨_, rfl⟩
        rw [← hd'] at er lb lt CC
        rw [e1] at CC
        generalize usedU d1 L64 = uu at CC
        simp only [spV, Lay.val, L64] at CC
        obtain ⟨y0, y1, y2, y3, y4, y5, y6⟩ := cells7b (ST1.out.row ML.out)
        have ER2 := hid (show Er u d' (5 + 10 * (6 + 1)) from er.of_b rfl (Nat.le_trans er.did (by omega))); have HU2 := HU; have HDD2 := hid (show d'.did ≤ 5 + 10 * (6 + 1) from Nat.le_trans er.did (by omega)); have HB2 := hid (And.intro lb lt)
        clear e1 er lb lt hd'
        go_wp2_with fail
        refine CC.mono ?_
        rintro e w3 ⟨⟨A, N, c, rfl, _, _⟩, i3, k3⟩
        have ST3 := hid (ST1.out.kpt i3 k3)
        clear CC i3 k3
        clear y0 y1 y2 y3 y4 y5 y6
        by_cases hq2 : (q : Int) < 1
        · rw [if_pos hq2]
          go_wp2_with fail
          go_roundw
          case rel => exact ⟨6 + 1, d', S, u, by omega, by go_num, rfl, fun _ => ER2.out, HU2.out, fun h => by omega, by have := HB2.out; omega, by have := HB2.out; omega, HDD2.out, ST3.out⟩
          case measure => simp [intOf]
        · rw [if_neg hq2]
          go_wp2_with fail
          go_roundw
          case rel => exact ⟨6 + 1, d', S, u, by omega, by go_num, rfl, fun _ => ER2.out, HU2.out, fun h => by omega, by have := HB2.out; omega, by have := HB2.out; omega, HDD2.out, ST3.out⟩
          case measure => simp [intOf]
      by_cases hk7 : k = 7
      · as_aux_lemma =>
        subst hk7
        obtain ⟨e1, e2, e3, lb, lt⟩ := emRun_on (emWs L64) d1 HE1.out (by have := HL1.out; omega)
        have hw5 : (emWs L64).length = 5 := by decide
        rw [hw5] at e1 lb e3
        rw [HL1.out] at e1 lb lt
        have CC := Empty_yes ((wo.setCell ⟨P, 1, none⟩ (.bool true)).setCell ⟨P, 2, none⟩ (.int .i64 (q : Int))) P ST1.out.i (by have := HL1.out; omega) (Nat.le_trans ER1.out.did (by omega)) L64 (ER1.out.bl L64_right) L64_right
        rw [e1] at CC
        obtain ⟨d', hd'⟩ : ∃ d', d' = (emRun d1 (emWs L64)).1 := ⟨_, rfl⟩
        rw [← hd'] at e3 lb lt CC
        simp only [spV, Lay.val, L64, show ((5 : Nat) : Int) = 5 from rfl] at CC lb
        obtain ⟨y0, y1, y2, y3, y4, y5, y6⟩ := cells7b (ST1.out.row ML.out)
        have HU2 := HU; have HDD2 := hid (show d'.did ≤ 5 + 10 * (7 + 1) from by have := ER1.out.did; omega); have HB2 := hid (And.intro lb lt)
        clear e1 e2 e3 lb lt hd' hw5
        go_wp2_with fail
        refine CC.mono ?_
        rintro e w3 ⟨rfl, S3, i3, k3, _⟩
        have ST3 := hid (ST1.out.kpt i3 k3)
        clear CC i3 k3
        clear y0 y1 y2 y3 y4 y5 y6
        by_cases hq2 : (q : Int) < 5
        · rw [if_pos hq2]
          go_wp2_with fail
          go_roundw
          case rel => exact ⟨7 + 1, d', S3, u, by omega, by go_num, rfl, fun h => absurd h (by omega), HU2.out, fun h => by omega, by have := HB2.out; omega, by have := HB2.out; omega, HDD2.out, ST3.out⟩
          case measure => simp [intOf]
        · rw [if_neg hq2]
          go_wp2_with fail
          go_roundw
          case rel => exact ⟨7 + 1, d', S3, u, by omega, by go_num, rfl, fun h => absurd h (by omega), HU2.out, fun h => by omega, by have := HB2.out; omega, by have := HB2.out; omega, HDD2.out, ST3.out⟩
          case measure => simp [intOf]
      omega
    · as_aux_lemma =>
      obtain rfl : k = 8 := by omega
      obtain ⟨q1, q2, f1, f2⟩ := hst.cellsP
      have st1 := hst.setEL true 0 (by omega)
      have ST1 := hid st1
      obtain ⟨z0, z1, z2, z3, z4, z5, z6⟩ := cells7b (st1.row MA.out)
      have RR := HRR.out ((wo.setCell ⟨P, 1, none⟩ (.bool true)).setCell ⟨P, 2, none⟩ (.int .i64 0))
      clear st1 hst hEr hu hu0 hl1 hl2 hdd
      go_wp2_with fail
      refine RR.mono ?_
      rintro e w3 ⟨rfl, b3⟩
      have ST3 := hid (ST1.out.below b3)
      clear RR ST1 b3 q1 q2 f1 f2 z0 z1 z2 z3 z4 z5 z6
      obtain ⟨d3, hd3⟩ : ∃ d3, d3 = ({ d with ends := true, left := 0 } : Pl) := ⟨_, rfl⟩
      rw [← hd3] at ST3
      have hl3 : d3.left = 0 := by rw [hd3]
      clear hd3
      cases rt with
      | true => as_aux_lemma =>
        have AW := HAW.out w3
        have hbw : Below w.heap.size w w3 := HBA.out.trans (ST3.out.b.mono HBA.out.size)
        have HBW := hid hbw
        clear hbw
        go_wp2_with fail
        refine AW.mono ?_
        rintro e w4 ⟨rfl, b4⟩
        have HB := hid (HBW.out.trans (b4.mono HBW.out.size))
        clear AW b4
        go_wp2
        go_ret
        exact ⟨rfl, HB.out⟩
      | false => as_aux_lemma =>
        have hR := HRT.out.symm
        have WU := HWU.out _ w3 P S d3 ST3.out.i (by omega) hR
        obtain ⟨em1', u2', u3'⟩ := HUD.out d3 hR
        rw [em1', u2', u3'] at WU
        obtain ⟨z0, z1, z2, z3, z4, z5, z6⟩ := cells7b (ST3.out.row MA.out)
        clear em1' u2' u3'
        go_wp2_with fail
        refine WU.mono ?_
        rintro e w4 ⟨⟨A4, N4, c4, rfl, rfl, _⟩, i4, k4⟩
        have ST4 := hid (ST3.out.kpt i4 k4)
        clear WU z0 z1 z2 z3 z4 z5 z6 i4 k4 ST3
        have WA := HWA.out _ w4 P S d3 ST4.out.i hR
        obtain ⟨z0, z1, z2, z3, z4, z5, z6⟩ := cells7b (ST4.out.row MA.out)
        go_wp2_with fail
        refine WA.mono ?_
        rintro e w5 ⟨⟨A5, N5, c5, rfl, rfl, _⟩, S5, i5, k5, _⟩
        have ST5 := hid (ST4.out.kpt i5 k5)
        clear WA z0 z1 z2 z3 z4 z5 z6 i5 k5 ST4
        have WF := HWF.out _ w5 P S5 d3 ST5.out.i hR
        have WE := HWE.out
        obtain ⟨z0, z1, z2, z3, z4, z5, z6⟩ := cells7b (ST5.out.row MA.out)
        go_wp2_with fail
        refine WF.mono ?_
        rintro e w6 ⟨rfl, S6, i6, k6, _⟩
        have ST6 := hid (ST5.out.kpt i6 k6)
        clear WF z0 z1 z2 z3 z4 z5 z6 i6 k6 ST5
        have WE := WE _ w6 P S6 d3 ST6.out.i hR
        obtain ⟨z0, z1, z2, z3, z4, z5, z6⟩ := cells7b (ST6.out.row MA.out)
        go_wp2_with fail
        refine WE.mono ?_
        rintro e w7 ⟨rfl, S7, i7, k7, _⟩
        have ST7 := hid (ST6.out.kpt i7 k7)
        clear WE z0 z1 z2 z3 z4 z5 z6 i7 k7 ST6 hR
        have AW := HAW.out w7
        have hbw : Below w.heap.size w w7 := HBA.out.trans (ST7.out.b.mono HBA.out.size)
        have HBW := hid hbw
        clear hbw
        go_wp2_with fail
        refine AW.mono ?_
        rintro e w8 ⟨rfl, b8⟩
        have HB := hid (HBW.out.trans (b8.mono HBW.out.size))
        clear AW b8
        go_wp2
        go_ret
        exact ⟨rfl, HB.out⟩
end Go.Proofs.Ytahlhdhljjpeoaa

/- How structs of numbers that came in are opened, and shut, for the rows. -/
namespace Go.Proofs.Ytahlhdhljjpeoaa
open Go.ChangeShapes Go.WideShapes Go.ChangeAt Go.RowKit Go.Deep
set_option linter.unusedVariables false
section
variable {H : Type} {enc : TypeId × Value → H} {P : Program} {w : World} {base : Nat} {spare : Nat → Bool} {held : Bool}
def numOf : Value → Int
  | .int _ n => n
  | _ => 0
def in63 (n : Int) : Prop := -9223372036854775808 ≤ n ∧ n ≤ 9223372036854775807
theorem wf63 {n : Int} : (Lit.int .i64 n).wf = true ↔ in63 n := by
  have h1 : IntKind.i64.min = -9223372036854775808 := rfl
  have h2 : IntKind.i64.max = 9223372036854775807 := rfl
  simp [Lit.wf, in63, h1, h2]
/-- A struct of ints: what it reads as. -/
theorem trod_iagg {t T : TypeId} {fs : Array Field} {fuel : Nat} {cs : List Value} {x : DataW H × List MemPlace} (hs : P.underlying t = some (.struct fs)) (hone : oneCellFields P fs = true) (hC : P.cellsOf t = fs.size)
    (hk : fs.all (fun f => f.type == T) = true) (hT : P.underlying T = some (.int .i64)) (h : DataW.trod enc P w base spare held fuel t cs = some x) :
    ∃ ns : List Int, cs = ns.map (Value.int .i64) ∧ ns.length = fs.size ∧ x = (.agg (ns.map fun n => .lit (.int .i64 n)), []) ∧ ∀ n ∈ ns, in63 n := by
  obtain ⟨xs, n, _, rfl, hl, hlen, hf⟩ := DataW.trod_struct hs h
  have key : ∀ i (hi : i < fs.size), ∃ m : Int, cs[i]? = some (.int .i64 m) ∧ xs[i]? = some (.lit (.int .i64 m), []) ∧ in63 m := by
    intro i hi
    have hfi : fs[i]? = some fs[i] := Array.getElem?_eq_getElem hi
    obtain ⟨ho, hc⟩ := hone_of hone i _ hfi
    have ht : fs[i].type = T := by
      have := Array.all_eq_true.1 hk i hi
      simpa using this
    have h1 := hf i _ hfi
    have hci : i < cs.length := by omega
    rw [ho, hc, ht, show (cs.drop i).take 1 = [cs[i]] by rw [List.drop_eq_getElem_cons hci]; rfl] at h1
    have hxi : xs[i]? = some xs[i] := List.getElem?_eq_getElem (by omega)
    rw [hxi] at h1
    obtain ⟨m, e1, e2, e3⟩ := DataW.trod_int hT h1
    refine ⟨m, ?_, ?_, wf63.1 e3⟩
    · rw [List.getElem?_eq_getElem hci]; simpa using e1
    · rw [hxi, e2]
  refine ⟨cs.map numOf, ?_, by rw [List.length_map]; omega, ?_, ?_⟩
  · apply List.ext_getElem?
    intro i
    rcases Nat.lt_or_ge i fs.size with hi | hi
    · obtain ⟨m, e1, _, _⟩ := key i hi
      simp [e1, numOf]
    · rw [List.getElem?_eq_none (by omega), List.getElem?_eq_none (by simp; omega)]
  · have hx : xs = (cs.map numOf).map fun n => (.lit (.int .i64 n), []) := by
      apply List.ext_getElem?
      intro i
      rcases Nat.lt_or_ge i fs.size with hi | hi
      · obtain ⟨m, e1, e2, _⟩ := key i hi
        simp [e1, e2, numOf]
      · rw [List.getElem?_eq_none (by omega), List.getElem?_eq_none (by simp; omega)]
    rw [hx]
    refine Prod.ext ?_ ?_
    · simp [Function.comp_def]
    · simp
  · intro n hn
    obtain ⟨v, hv, rfl⟩ := List.mem_map.1 hn
    obtain ⟨i, hi, rfl⟩ := List.getElem_of_mem hv
    obtain ⟨m, e1, _, e3⟩ := key i (by omega)
    rw [List.getElem?_eq_getElem hi] at e1
    rw [Option.some.inj e1]
    exact e3
theorem mapM_all {α β : Type} {f : α → Option β} {g : α → β} : ∀ {l : List α}, (∀ a ∈ l, f a = some (g a)) → l.mapM f = some (l.map g)
  | [], _ => rfl
  | a :: l, h => by
    rw [List.mapM_cons, h a (by simp), mapM_all (fun b hb => h b (by simp [hb]))]
    rfl
theorem trod_iagg_mk {t T : TypeId} {fs : Array Field} {ns : List Int} (hs : P.underlying t = some (.struct fs)) (hone : oneCellFields P fs = true) (hC : P.cellsOf t = fs.size)
    (hk : fs.all (fun f => f.type == T) = true) (hT : P.underlying T = some (.int .i64)) (hl : ns.length = fs.size) (hn : ∀ n ∈ ns, in63 n) :
    DataW.trod enc P w base spare held 2 t (ns.map (Value.int .i64)) = some (.agg (ns.map fun n => .lit (.int .i64 n)), []) := by
  have hm : fs.toList.mapM (fun f => DataW.trod enc P w base spare held 1 f.type (((ns.map (Value.int .i64)).drop f.offset).take (P.cellsOf f.type))) = some (fs.toList.map fun f => (.lit (.int .i64 (ns.getD f.offset 0)), [])) := by
    refine mapM_all fun f hf => ?_
    obtain ⟨i, hi, rfl⟩ := List.getElem_of_mem hf
    rw [Array.length_toList] at hi
    rw [Array.getElem_toList]
    have hfi : fs[i]? = some fs[i] := Array.getElem?_eq_getElem hi
    obtain ⟨ho, hc⟩ := hone_of hone i _ hfi
    have ht : fs[i].type = T := by
      have := Array.all_eq_true.1 hk i hi
      simpa using this
    rw [ho, hc, ht, List.drop_eq_getElem_cons (by simp; omega)]
    have hw := wf63.2 (hn ns[i] (List.getElem_mem _))
    simp [DataW.trod, hT, hw, List.getD_eq_getElem?_getD, List.getElem?_eq_getElem (show i < ns.length by omega)]
  have := trod_struct_mk (enc := enc) (w := w) (base := base) (spare := spare) (held := held) hs (by rw [List.length_map]; omega) hm
  rw [this]
  congr 1
  refine Prod.ext ?_ ?_
  · simp only [List.map_map, Function.comp_def]
    congr 1
    apply List.ext_getElem?
    intro i
    rcases Nat.lt_or_ge i fs.size with hi | hi
    · have hfi : fs[i]? = some fs[i] := Array.getElem?_eq_getElem hi
      obtain ⟨ho, hc⟩ := hone_of hone i _ hfi
      simp [hfi, ho, List.getD_eq_getElem?_getD, List.getElem?_eq_getElem (show i < ns.length by omega)]
    · rw [List.getElem?_eq_none (by simp; omega), List.getElem?_eq_none (by simp; omega)]
  · simp
/-- A struct of ints that came in: opened, and shut in whatever memory. -/
theorem open_iagg {r : Reach} {b0 : Nat} {t T : TypeId} {fs : Array Field} {v : Value} {d : DataW H} {ps : List MemPlace} (hs : P.underlying t = some (.struct fs)) (hone : oneCellFields P fs = true) (hC : P.cellsOf t = fs.size)
    (hk : fs.all (fun f => f.type == T) = true) (hT : P.underlying T = some (.int .i64)) (hv : Value.okWide P w r b0 t v) (h : DataW.Trod enc P w base spare held t v d ps) :
    ∃ ns : List Int, v = .agg (ns.map (Value.int .i64)).toArray ∧ ns.length = fs.size ∧ ps = [] ∧ (∀ n ∈ ns, in63 n) ∧ ∀ (w' : World) (base' : Nat) (spare' : Nat → Bool) (held' : Bool), DataW.Trod enc P w' base' spare' held' t v d [] := by
  obtain ⟨cs, rfl, hsz⟩ := okWide_struct hs hv
  obtain ⟨fuel, hf⟩ := h
  obtain ⟨ns, e1, e2, e3, e4⟩ := trod_iagg hs hone hC hk hT hf
  have e1' : cs = (ns.map (Value.int .i64)).toArray := by
    apply Array.ext'
    simpa [Value.cells] using e1
  obtain ⟨rfl, rfl⟩ := Prod.mk.inj e3
  refine ⟨ns, by rw [e1'], e2, rfl, e4, fun w' base' spare' held' => ⟨2, ?_⟩⟩
  rw [e1']
  simpa [Value.cells] using trod_iagg_mk (enc := enc) (w := w') (base := base') (spare := spare') (held := held') hs hone hC hk hT e2 e4
end
end Go.Proofs.Ytahlhdhljjpeoaa
