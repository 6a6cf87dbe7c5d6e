/- awake of law 04. -/
import Derived.Test.YtddejjmebokgiaaLaw04c
namespace Go.Proofs.Ytddejjmebokgiaa
open Go.RowKit
variable {Q : Nat → Prop}
set_option maxHeartbeats 3200000
set_option maxRecDepth 100000
set_option linter.unusedVariables false
set_option linter.unusedSimpArgs false

abbrev AnyB : Nat → Prop := fun _ => True
/-- Nothing is armed. -/
structure Dk.calm (d : Dk) : Prop where
  down : d.down = false
  aon : d.aon = false
  fon : d.fon = false
theorem calm_stop {d : Dk} (h : d.calm) : d.stopE = 0 ∧ d.stopD = d := by
  obtain ⟨h1, h2, h3⟩ := h
  constructor
  · simp [Dk.stopE, h1, gStop, h2, h3]
  · obtain ⟨a, b, c, e, f, g, i, j, k, l⟩ := d
    simp only at h1 h2 h3
    subst h1 h2 h3
    simp [Dk.stopD, gStop, Dk.gone, gOn, gLeft]
theorem wrong_zero {d : Dk} {n : Nat} (hn : n < d.now.length) : d.wrong (n : Int) = 0 := by
  unfold Dk.wrong
  rw [if_neg (by omega)]
theorem calm_write {d : Dk} (h : d.calm) {n : Nat} {b : List UInt8} (hn : n < d.now.length) (hb : b.length = 4096) : d.wrE (n : Int) b = 0 ∧ d.wrD (n : Int) b = d.put n b ∧ (d.put n b).calm := by
  obtain ⟨h1, h2⟩ := calm_stop h
  have hw := wrong_zero hn
  refine ⟨?_, ?_, ⟨h.down, h.aon, h.fon⟩⟩
  · simp only [Dk.wrE, hw, h1, hb, ne_eq, not_true, if_false]
  · simp only [Dk.wrD, hw, h1, h2, hb, ne_eq, not_true, if_false, Int.toNat_natCast]
theorem calm_crash (d : Dk) (ks : List Bool) (a : Int) (s : Nat) : (d.crash ks a s).calm := ⟨rfl, rfl, rfl⟩
theorem calm_has {d : Dk} (h : d.down = false) {n : Nat} {l : List UInt8} (hn : d.now[n]? = some l) : d.hasB (n : Int) l = true := by
  have hlt := (List.getElem?_eq_some_iff.1 hn).1
  have hw := wrong_zero hlt
  unfold Dk.hasB Dk.rdE Dk.rdB
  simp only [hw, h, ne_eq, not_true, if_false, Bool.false_eq_true, Int.toNat_natCast, List.getD_eq_getElem?_getD, hn, Option.getD_some]
  simp
theorem fillB_length (b : UInt8) : (fillB b).length = 4096 := List.length_replicate
theorem bat_fill (b : UInt8) (k : Nat) (hk : k < 4096) : bat (fillB b) k = b := by
  have h : k < (fillB b).length := by rw [fillB_length]; exact hk
  unfold bat
  rw [List.getD_eq_getElem?_getD, List.getElem?_eq_getElem h]
  simp only [fillB, List.getElem_replicate, Option.getD_some]
theorem torn_fill (a b : UInt8) (s : Nat) : tornB (fillB a) (fillB b) s = mixTo a b s 4096 := by
  unfold tornB tornTo mixTo
  apply List.map_congr_left
  intro k hk
  have hk' : k < 4096 := List.mem_range.1 hk
  rw [bat_fill a k hk', bat_fill b k hk']
theorem zeros_fill : zeros 4096 = fillB 0 := rfl
theorem Turn.open_ {base : Nat} {v w w' : World} {D : Nat} {S : Nat → Prop} {d d' : Dk} (h : Turn Q base w D S w' d') (hi : IsDk AnyB base w D S d) (hb : Below base v w) :
    ∃ S', IsDk AnyB base w' D S' d' ∧ Kpt S w w' ∧ (∀ b, S' b → S b ∨ w.heap.size ≤ b) ∧ Below base v w' := by
  obtain ⟨S', h1, h2, h3⟩ := h
  have hsz : base ≤ w.heap.size := Nat.le_trans (hi.blocks hi.inS).1 (Nat.le_of_lt (hi.blocks hi.inS).2.1)
  exact ⟨S', h1.monoQ (fun _ _ => trivial), h2, h3, kpt_below' hb h2 hsz (fun j hj hs => by have := (hi.blocks hs).1; omega)⟩
theorem awake04_pure (Z A B : List UInt8) : ((((mkDk [Z, Z]).put 0 A).put 0 B).put 1 A).wn = [0, 0, 1] ∧ (((((mkDk [Z, Z]).put 0 A).put 0 B).put 1 A).crash [true] (-1) 0).now = [A, Z] ∧ ((((((mkDk [Z, Z]).put 0 A).put 0 B).put 1 A).copy).crash [] 1 3).now = [tornB Z B 3, Z] := by
  refine ⟨rfl, rfl, ?_⟩
  rfl
theorem awake04_any (w : World) : Calls Try.prog 14 #[] w fun e w' => e = .returned (.bool true) ∧ Below w.heap.size w w' := by
  have NW := New_any w 2 (by decide) (by decide)
  have hnew : newDk 2 = mkDk [fillB 0, fillB 0] := rfl
  rw [hnew] at NW
  have FA := fun w => filled_any w 65
  have FB := fun w => filled_any w 66
  have F0 := fun w => filled_any w 0
  have MX := fun w => mixed_any w 0 66 3 (by decide)
  have lA := fillB_length 65; have lB := fillB_length 66; have l0 := fillB_length 0
  have hmix := torn_fill 0 66 3
  have lM : (mixTo 0 66 3 4096).length = 4096 := by simp only [mixTo, List.length_map, List.length_range]
  generalize fillB 65 = A at *
  generalize fillB 66 = B at *
  generalize fillB 0 = Z at *
  generalize mixTo 0 66 3 4096 = M at *
  obtain ⟨pw, pd, pc⟩ := awake04_pure Z A B
  rw [hmix] at pc
  have c0 : (mkDk [Z, Z]).calm := ⟨rfl, rfl, rfl⟩
  obtain ⟨e1, q1, c1⟩ := calm_write (n := 0) (b := A) c0 (show 0 < 2 by decide) lA
  obtain ⟨e2, q2, c2⟩ := calm_write (n := 0) (b := B) c1 (show 0 < 2 by decide) lB
  obtain ⟨e3, q3, c3⟩ := calm_write (n := 1) (b := A) c2 (show 1 < 2 by decide) lA
  obtain ⟨d0, hd0⟩ : ∃ d, d = mkDk [Z, Z] := ⟨_, rfl⟩
  obtain ⟨d1, hd1⟩ : ∃ d, d = (mkDk [Z, Z]).put 0 A := ⟨_, rfl⟩
  obtain ⟨d2, hd2⟩ : ∃ d, d = ((mkDk [Z, Z]).put 0 A).put 0 B := ⟨_, rfl⟩
  obtain ⟨d3, hd3⟩ : ∃ d, d = (((mkDk [Z, Z]).put 0 A).put 0 B).put 1 A := ⟨_, rfl⟩
  have w0 : d0.wn.length < 1000000 := by rw [hd0]; exact (show 0 < 1000000 by decide)
  have w1 : d1.wn.length < 1000000 := by rw [hd1]; exact (show 1 < 1000000 by decide)
  have w2 : d2.wn.length < 1000000 := by rw [hd2]; exact (show 2 < 1000000 by decide)
  rw [← hd3] at pw pd pc q3 c3
  rw [← hd2] at q2 e3 q3
  rw [← hd1] at q1 e2 q2
  rw [← hd0] at e1 q1 NW
  have hA1 : (d3.crash [true] (-1) 0).hasB ((0 : Nat) : Int) A = true := calm_has rfl (by rw [pd]; rfl)
  have hA2 : (d3.crash [true] (-1) 0).hasB ((1 : Nat) : Int) Z = true := calm_has rfl (by rw [pd]; rfl)
  have hA3 : (d3.copy.crash [] 1 3).hasB ((0 : Nat) : Int) M = true := calm_has rfl (by rw [pc]; rfl)
  obtain ⟨dF, hdF⟩ : ∃ d, d = d3.crash [true] (-1) 0 := ⟨_, rfl⟩
  obtain ⟨cF, hcF⟩ : ∃ d, d = d3.copy.crash [] 1 3 := ⟨_, rfl⟩
  rw [← hdF] at hA1 hA2
  rw [← hcF] at hA3
  have W1 := fun (w' : World) (D : Nat) (S : Nat → Prop) (h : IsDk AnyB w.heap.size w' D S d0) (g : Nat) (hr : RdU w' (some ⟨g, 0, none⟩) A) => Write_is w' D h w0 0 (some ⟨g, 0, none⟩) 4096 4096 A lA.symm hr
  have W2 := fun (w' : World) (D : Nat) (S : Nat → Prop) (h : IsDk AnyB w.heap.size w' D S d1) (g : Nat) (hr : RdU w' (some ⟨g, 0, none⟩) B) => Write_is w' D h w1 0 (some ⟨g, 0, none⟩) 4096 4096 B lB.symm hr
  have W3 := fun (w' : World) (D : Nat) (S : Nat → Prop) (h : IsDk AnyB w.heap.size w' D S d2) (g : Nat) (hr : RdU w' (some ⟨g, 0, none⟩) A) => Write_is w' D h w2 1 (some ⟨g, 0, none⟩) 4096 4096 A lA.symm hr
  simp only [show ((0 : Nat) : Int) = 0 from rfl, show ((1 : Nat) : Int) = 1 from rfl] at e1 q1 e2 q2 e3 q3 hA1 hA2 hA3
  simp only [e1, q1] at W1
  simp only [e2, q2] at W2
  simp only [e3, q3] at W3
  have CR1 := fun (w' : World) (D : Nat) (S : Nat → Prop) (h : IsDk AnyB w.heap.size w' D S d3) (g : Nat) (hr : RdV w' (some ⟨g, 0, none⟩) (Bools [true])) (hka : ¬ S g) => Crash_is w' D h (some ⟨g, 0, none⟩) 1 1 [true] rfl (by decide) hr (by rintro _ x off e; cases e; exact hka) (-1) 0 (by decide)
  have CR2 := fun (b : Nat) (w' : World) (D : Nat) (S : Nat → Prop) (h : IsDk AnyB b w' D S d3.copy) => Crash_is w' D h none 0 0 [] rfl (by decide) (RdV.nil _ _) (by rintro _ x off e; cases e) 1 3 (by decide)
  simp only [← hdF] at CR1
  simp only [← hcF] at CR2
  have CP := fun (w' : World) (D : Nat) (S : Nat → Prop) (h : IsDk AnyB w.heap.size w' D S d3) => Copy_is w' D h
  have PE := fun (w' : World) (D : Nat) (S : Nat → Prop) (h : IsDk AnyB w.heap.size w' D S d3) => Pending_is w' D h
  simp only [pw] at PE
  obtain ⟨dC, hdC⟩ : ∃ d, d = d3.copy := ⟨_, rfl⟩
  rw [← hdC] at CP CR2
  clear hdF hcF hdC hd0 hd1 hd2 hd3 pw pd pc q1 q2 q3 e1 e2 e3 c0 c1 c2 c3 w0 w1 w2 hmix hnew
  have HlA := hid lA; have HlB := hid lB; have Hl0 := hid l0; have HlM := hid lM
  clear lA lB l0 lM
  unfold ptr at *
  go_enter Try.func14, Try.ntmps14
  go_wp2_with fail
  refine NW.mono ?_
  rintro e v1 ⟨D, S0, rfl, i1q, b1⟩
  have i1 : IsDk AnyB w.heap.size v1 D S0 d0 := i1q.monoQ (fun _ _ => trivial)
  clear i1q
  go_wp2_with fail
  refine (FA _).mono ?_
  rintro e v2 ⟨gA, rfl, g2, b2⟩
  have i2 := i1.below b2
  have bb2 := b1.trans (b2.mono b1.size)
  go_wp2_with fail
  refine (W1 _ _ _ i2 gA g2.rdu).mono ?_
  rintro e v3 ⟨rfl, t3⟩
  obtain ⟨S3, i3, k3, s3, bb3⟩ := t3.open_ i2 bb2
  go_wp2_with fail
  refine (FB _).mono ?_
  rintro e v4 ⟨gB, rfl, g4, b4⟩
  have i4 := i3.below b4
  have bb4 := bb3.trans (b4.mono bb3.size)
  go_wp2_with fail
  refine (W2 _ _ _ i4 gB g4.rdu).mono ?_
  rintro e v5 ⟨rfl, t5⟩
  obtain ⟨S5, i5, k5, s5, bb5⟩ := t5.open_ i4 bb4
  go_wp2_with fail
  refine (FA _).mono ?_
  rintro e v6 ⟨gA2, rfl, g6, b6⟩
  have i6 := i5.below b6
  have bb6 := bb5.trans (b6.mono bb5.size)
  go_wp2_with fail
  refine (W3 _ _ _ i6 gA2 g6.rdu).mono ?_
  rintro e v7 ⟨rfl, t7⟩
  obtain ⟨S7, i7, k7, s7, bb7⟩ := t7.open_ i6 bb6
  have H7 := hid (fun b (hb : S7 b) => (i7.blocks hb).2.1)
  clear t3 t5 t7 W1 W2 W3 NW i1 i2 i3 i4 i5 i6 k3 k5 k7 s3 s5 s7 bb2 bb3 bb4 bb5 bb6 b1 b2 b4 b6 g2 g4 g6
  go_wp2_with fail
  refine (CP _ _ _ i7).mono ?_
  rintro e v8 ⟨E, Sc, rfl, i8c, b8⟩
  have i8 := i7.below b8
  have bb8 := bb7.trans (b8.mono bb7.size)
  have H8 := hid (fun b (hb : Sc b) => (show v7.heap.size ≤ b from (i8c.blocks hb).1))
  have HSC := hid (fun b (hb : Sc b) => (i8c.blocks hb).2.1)
  clear i7
  go_wp2_with fail
  refine (PE _ _ _ i8).mono ?_
  rintro e v9 ⟨Ap, cp, rfl, hp9, b9⟩
  have i9 := i8.below b9
  have i9c := i8c.below b9
  have bb9 := bb8.trans (b9.mono bb8.size)
  have hv8 := b8.size
  have hv9 := b9.size
  clear i8 i8c
  -- the crash of d
  obtain ⟨va, hva⟩ : ∃ va, va = v9.alloc (.cells #[.bool true] 4) := ⟨_, rfl⟩
  have ba : Below v9.heap.size v9 va := by rw [hva]; exact (Below.refl _ _).alloc (Nat.le_refl _) _
  have hra : RdV va (some ⟨v9.heap.size, 0, none⟩) (Bools [true]) := by rw [hva]; exact RdV.new' v9 #[.bool true] _ rfl
  have hva1 : v9.heap.size < va.heap.size := by rw [hva]; simp
  have HVA := hid hva
  clear hva
  have ia := i9.below ba
  have iac := i9c.below ba
  have bba := bb9.trans (ba.mono bb9.size)
  go_wp2_with fail
  rw [← HVA.out]
  refine (CR1 _ _ _ ia _ hra (fun hs => by have := H7.out _ hs; omega)).mono ?_
  rintro e vb ⟨rfl, tb⟩
  obtain ⟨Sb, ib, kb, sb_, bbb⟩ := tb.open_ ia bba
  have ibc : IsDk AnyB v7.heap.size vb E Sc dC := iac.kpt kb ia.nou (fun b hb hs => by have := H7.out b hs; have := H8.out b hb; omega)
  have hpb := own_kpt (own_below (own_below hp9 (Below.refl _ _)) ba) kb (fun b hb hs => by have := H7.out b hs; have := (own_row hp9 hb).1; omega)
  have hkb := kb.size
  clear tb ia iac CR1 hp9 hra i9 i9c
  go_wp2_with fail
  refine (CR2 _ _ _ _ ibc).mono ?_
  rintro e vc ⟨rfl, tc⟩
  have hbz : v7.heap.size ≤ vb.heap.size := by omega
  obtain ⟨Sd, ic, kc, sc, bbc⟩ := tc.open_ ibc (Below.refl v7.heap.size vb)
  have icd : IsDk AnyB w.heap.size vc D Sb dF := ib.kpt kc ibc.nou (fun b hb hs => by
    have h1 := H8.out b hs
    have h2 := HSC.out b hs
    rcases sb_ b hb with h | h
    · have := H7.out b h; omega
    · omega)
  have hpc := own_kpt hpb kc (fun b hb hs => by have := HSC.out b hs; have := (own_row hpb hb).1; omega)
  have bwc : Below w.heap.size w vc := kpt_below' bbb kc (by have := bb7.size; omega) (fun j hj hs => by have := H8.out j hs; have := bb7.size; omega)
  have hv7 := bb7.size
  clear tc ib ibc CR2 hpb kb kc sb_ sc bbb bbc CP PE bb7 bb8 bb9 bba b8 b9 ba
  go_wp2_with fail
  obtain ⟨vi, hvi⟩ : ∃ vi, vi = vc.alloc (.cells #[.int .i64 0, .int .i64 0, .int .i64 1] 3) := ⟨_, rfl⟩
  have bi : Below vc.heap.size vc vi := by rw [hvi]; exact (Below.refl _ _).alloc (Nat.le_refl _) _
  have hri : RdV vi (some ⟨vc.heap.size, 0, none⟩) (I64s [0, 0, 1]) := by rw [hvi]; exact RdV.new' vc #[.int .i64 0, .int .i64 0, .int .i64 1] _ rfl
  rw [← hvi]
  have SI := SameInts_self vi Ap (some ⟨vc.heap.size, 0, none⟩) cp 3 3 [0, 0, 1] rfl (by decide) (RdV.own (own_below hpc bi)) hri
  have iid := icd.below bi
  have iic := ic.below bi
  have bwi := bwc.trans (bi.mono bwc.size)
  clear hvi icd ic bwc hpc hri bi
  refine SI.mono ?_
  rintro e vj ⟨rfl, bj⟩
  have jd := iid.below bj
  have jc := iic.below bj
  have bwj := bwi.trans (bj.mono bwi.size)
  clear SI iid iic bwi bj
  go_wp2_with fail
  refine (FA _).mono ?_
  rintro e vk ⟨gk, rfl, fk, bk⟩
  have HS1 := has_is vk D (jd.below bk) 0 (some ⟨gk, 0, none⟩) 4096 4096 A HlA.out.symm fk.rd
  rw [hA1] at HS1
  unfold ptr at HS1
  have kd := jd.below bk
  have kc := jc.below bk
  have bwk := bwj.trans (bk.mono bwj.size)
  clear jd jc bwj
  go_wp2_with fail
  refine HS1.mono ?_
  rintro e vl ⟨rfl, bl⟩
  have ld := kd.below bl
  have lc := kc.below bl
  have bwl := bwk.trans (bl.mono bwk.size)
  clear HS1 kd kc bwk fk bk bl
  go_wp2_with fail
  refine (F0 _).mono ?_
  rintro e vm ⟨gm, rfl, fm, bm⟩
  have HS2 := has_is vm D (ld.below bm) 1 (some ⟨gm, 0, none⟩) 4096 4096 Z Hl0.out.symm fm.rd
  rw [hA2] at HS2
  unfold ptr at HS2
  have mc := lc.below bm
  have bwm := bwl.trans (bm.mono bwl.size)
  clear ld lc bwl
  go_wp2_with fail
  refine HS2.mono ?_
  rintro e vn ⟨rfl, bn⟩
  have nc := mc.below bn
  have bwn := bwm.trans (bn.mono bwm.size)
  clear HS2 mc bwm fm bm bn
  go_wp2_with fail
  refine (MX _).mono ?_
  rintro e vo ⟨go, rfl, fo, bo⟩
  have HS3 := has_is vo E (nc.below bo) 0 (some ⟨go, 0, none⟩) 4096 4096 M HlM.out.symm fo.rd
  rw [hA3] at HS3
  unfold ptr at HS3
  have bwo := bwn.trans (bo.mono bwn.size)
  clear nc bwn
  go_wp2_with fail
  refine HS3.mono ?_
  rintro e vp ⟨rfl, bp⟩
  go_wp2
  go_ret
  exact ⟨rfl, bwo.trans (bp.mono bwo.size)⟩
end Go.Proofs.Ytddejjmebokgiaa
