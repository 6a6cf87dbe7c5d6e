/- The walk of DiskFlushed. -/
import Derived.Test.YtddejjmebokgiaaLaw04i
namespace Go.Proofs.Ytddejjmebokgiaa
open Go.RowKit
variable {Q : Nat → Prop}
set_option maxHeartbeats 3200000
set_option maxRecDepth 100000
set_option linter.unusedVariables false
set_option linter.unusedSimpArgs false

/-- What block n was, and was written by the first j writes. -/
def sncT (d : Dk) (j n : Nat) : List (List UInt8) := d.safe.getD n [] :: (((d.wn.zip d.wd).take j).filter (fun p => p.1 == n)).map Prod.snd
theorem sncT_succ {d : Dk} (h : d.wn.length = d.wd.length) {j : Nat} (hj : j < d.wn.length) (n : Nat) : sncT d (j + 1) n = if n = d.wn.getD j 0 then sncT d j n ++ [d.wd.getD j []] else sncT d j n := by
  have hz : (d.wn.zip d.wd)[j]? = some (d.wn.getD j 0, d.wd.getD j []) := by
    have hj2 : j < d.wd.length := by omega
    rw [List.getElem?_zip_eq_some]
    simp [List.getD_eq_getElem?_getD, List.getElem?_eq_getElem hj, List.getElem?_eq_getElem hj2]
  unfold sncT
  rw [List.take_add_one, hz]
  simp only [Option.toList_some, List.filter_append, List.map_append]
  by_cases e : n = d.wn.getD j 0
  · rw [if_pos e, ← e]
    simp
  · rw [if_neg e]
    have : ¬ (d.wn.getD j 0 = n) := fun x => e x.symm
    have e2 : (d.wn.getD j 0 == n) = false := by simpa using this
    simp only [List.filter_cons, e2, Bool.false_eq_true, if_false, List.filter_nil, List.map_nil, List.append_nil]
theorem sncT_all (d : Dk) (h : d.wn.length = d.wd.length) (n : Nat) : sncT d d.wn.length n = snc d n := by
  unfold sncT snc
  rw [List.take_of_length_le (by rw [List.length_zip]; omega)]
theorem getD_set {α : Type} (l : List α) (i j : Nat) (x y : α) (hi : i < l.length) : (l.set i x).getD j y = if j = i then x else l.getD j y := by
  simp only [List.getD_eq_getElem?_getD]
  by_cases e : j = i
  · subst e; simp [hi]
  · rw [if_neg e, List.getElem?_set_ne (fun x => e x.symm)]
/-- A crash that keeps all. -/
theorem crS_all {d : Dk} (ho : d.ok) : ∀ j, j ≤ d.wn.length → ∀ n, n < d.safe.length → (d.crS (List.replicate d.wn.length true) (-1) 0 j).getD n [] = (sncT d j n).getLastD []
  | 0, _, n, hn => by simp [Dk.crS, sncT]
  | j + 1, hj, n, hn => by
    have ih := crS_all ho j (by omega) n hn
    have hk : (List.replicate d.wn.length true).getD j false = true := by
      rw [List.getD_eq_getElem?_getD, List.getElem?_eq_getElem (by simpa using (show j < d.wn.length by omega)), List.getElem_replicate]; rfl
    have hw : d.wn.getD j 0 < d.safe.length := by
      have hj2 : j < d.wn.length := by omega
      rw [List.getD_eq_getElem?_getD, List.getElem?_eq_getElem hj2, ho.len]
      exact ho.win _ (List.getElem_mem hj2)
    rw [crS_keep (by omega) hk, getD_set _ _ _ _ _ (by rw [crS_length]; exact hw), sncT_succ ho.wlen (by omega)]
    by_cases e : n = d.wn.getD j 0
    · rw [if_pos e, if_pos e]
      simp
    · rw [if_neg e, if_neg e]
      exact ih
theorem all_now {d : Dk} (h : d.good) : (d.copy.crash (List.replicate d.wn.length true) (-1) 0).now = d.now := by
  have hl : (d.crS (List.replicate d.wn.length true) (-1) 0 d.wn.length).length = d.now.length := (crS_length _ _ _ _ _).trans h.ok.len
  have hc : ∀ j, d.copy.crS (List.replicate d.wn.length true) (-1) 0 j = d.crS (List.replicate d.wn.length true) (-1) 0 j := by
    intro j
    induction j with
    | zero => rfl
    | succ j ih => simp only [Dk.crS, ih]; rfl
  show d.copy.crS (List.replicate d.wn.length true) (-1) 0 d.wn.length = d.now
  rw [hc]
  apply List.ext_getElem hl
  intro n h1 h2
  have hn : n < 4 := by rw [← h.four]; exact h2
  have e1 := crS_all h.ok d.wn.length (Nat.le_refl _) n (by rw [h.ok.len]; exact h2)
  rw [sncT_all d h.ok.wlen, ← h.last n hn] at e1
  rw [List.getD_eq_getElem?_getD, List.getD_eq_getElem?_getD, List.getElem?_eq_getElem h1, List.getElem?_eq_getElem h2] at e1
  exact e1
theorem info_b : (Try.prog.info? 4).map (fun i => (i.zero, i.size, i.bytes)) = some (some (.bool false), 1, 1) := by kernel_rfl
theorem run_mkBo (n : Nat) (hn : n ≤ 1000000) (W : World) : (Instr.makeSlice 23 (.int .i64 (n : Int)) (.int .i64 (n : Int))).run Try.prog W = .ok (.slice (some ⟨W.heap.size, 0, none⟩) n n) (W.alloc (.cells (madeCells #[.bool false] n) 4)) := by
  obtain ⟨i0, hi, hz0, hz1, hz2⟩ := info_parts info_b
  have := run_make (P := Try.prog) W 23 4 i0 (.bool false) Try.underlying23 hi hz0 .i64 .i64 (n : Int) (n : Int) (by omega) (by omega) (by rw [hz2]; omega) (by omega)
  rw [this, hz1]
  simp only [Int.toNat_natCast, Nat.mul_one]
  rfl
theorem madeBo (n : Nat) : (madeCells #[.bool false] n).toList = Bools (List.replicate n false) := by
  rw [toList_madeCells_one, Bools, List.map_replicate]
theorem rd_lt {w : World} {x off : Nat} {vs : List Value} (h : RdV w (some ⟨x, off, none⟩) vs) (hn : vs ≠ []) : x < w.heap.size := by
  obtain ⟨b, o, e, hc⟩ := h hn
  cases e
  have h0 := hc 0 (vs[0]'(List.length_pos_iff.2 hn)) (List.getElem?_eq_getElem _)
  exact World.block_lt_of_cell? w _ h0
theorem bools_ne' {ks : List Bool} (hk : 0 < ks.length) : Bools ks ≠ [] := by
  intro e
  simp only [Bools, List.map_eq_nil_iff] at e
  subst e
  simp at hk
theorem DiskFlushed_any (w : World) (ws : List Int) (a : Option Addr) (c : Nat) (ks : List Bool) (a2 : Option Addr) (c2 : Nat) (at_ : Int) (s : Nat) (hs : s < 256) (hl : ws.length ≤ 140737488351232) (hr : RdV w a (W64 ws)) (hz : ∀ z ∈ ws, -9223372036854775808 ≤ z ∧ z ≤ 9223372036854775807)
    (hlk : ks.length ≤ 140737488351232) (hrk : RdV w a2 (Bools ks)) :
    Calls Try.prog 6 #[.slice a ws.length c, .slice a2 ks.length c2, .int .i64 at_, .int .u8 (s : Int)] w fun e w' => e = .returned (.bool true) ∧ Below w.heap.size w w' := by
  have AW := awake04_any
  have MA := made_any w ws a c hl hr hz
  obtain ⟨hg, hwn⟩ := mst_good ws (min ws.length 30) (by omega)
  generalize mst ws (min ws.length 30) = d at *
  have hall := all_now hg
  obtain ⟨K, hK⟩ : ∃ K, K = d.wn.length := ⟨_, rfl⟩
  rw [← hK] at hall hwn
  have hK30 : K ≤ 30 := by omega
  obtain ⟨xF, hxF⟩ : ∃ x, x = d.copy.crash (List.replicate K true) (-1) 0 := ⟨_, rfl⟩
  rw [← hxF] at hall
  have hcalm : d.copy.calm := ⟨hg.calm.down, hg.calm.aon, hg.calm.fon⟩
  have hfl : d.copy.flD = d.copy.flush := by simp only [Dk.flD, (calm_stop hcalm).1, (calm_stop hcalm).2, ne_eq, not_true, if_false]
  have hst := (calm_stop hcalm).1
  obtain ⟨yF, hyF⟩ : ∃ y, y = d.copy.flush.crash ks at_ s := ⟨_, rfl⟩
  have hyn : yF.now = d.now := by rw [hyF]; rfl
  have hyw : yF.wn = [] := by rw [hyF]; rfl
  obtain ⟨IMG, hIMG⟩ : ∃ I, I = d.now.flatten := ⟨_, rfl⟩
  have hILen : IMG.length = 16384 := by
    rw [hIMG]
    have h4 := hg.ok.n4
    have hf := hg.four
    generalize d.now = N at *
    match N, hf, h4 with
    | [x1, x2, x3, x4], _, h4 => simp [h4 x1 (by simp), h4 x2 (by simp), h4 x3 (by simp), h4 x4 (by simp)]
  have hmk := fun W => run_mkBo K (by omega) W
  have hnl : d.now.length = 4 := hg.four
  have hxl : xF.now.length = 4 := by rw [hall]; exact hnl
  have hyl : yF.now.length = 4 := by rw [hyn]; exact hnl
  have hxi : xF.now.flatten = IMG := by rw [hall, hIMG]
  have hyi : yF.now.flatten = IMG := by rw [hyn, hIMG]
  have IM := fun W D S (b : Nat) (h : IsDk AnyB b W D S d) => Image_is W D h
  have IMx := fun W D S (b : Nat) (h : IsDk AnyB b W D S xF) => Image_is W D h
  have IMy := fun W D S (b : Nat) (h : IsDk AnyB b W D S yF) => Image_is W D h
  simp only [hnl, ← hIMG] at IM
  simp only [hxl, hxi] at IMx
  simp only [hyl, hyi] at IMy
  have CP := fun W D S (b : Nat) (h : IsDk AnyB b W D S d) => Copy_is W D h
  have PE := fun W D S (b : Nat) (h : IsDk AnyB b W D S d) => Pending_is W D h
  have PEy := fun W D S (b : Nat) (h : IsDk AnyB b W D S yF) => Pending_is W D h
  simp only [← hK] at PE
  simp only [hyw] at PEy
  obtain ⟨dc, hdc⟩ : ∃ x, x = d.copy := ⟨_, rfl⟩
  obtain ⟨df, hdf⟩ : ∃ x, x = d.copy.flush := ⟨_, rfl⟩
  have CRx := fun W D S (b : Nat) (h : IsDk AnyB b W D S dc) g (hr : RdV W (some ⟨g, 0, none⟩) (Bools (List.replicate K true))) hka => Crash_is W D h (some ⟨g, 0, none⟩) K K (List.replicate K true) (by simp) (by simp; omega) hr hka (-1) 0 (by decide)
  have FLy := fun W D S (b : Nat) (h : IsDk AnyB b W D S dc) => Flush_is W D h
  have CRy := fun W D S (b : Nat) (h : IsDk AnyB b W D S df) (hr : RdV W a2 (Bools ks)) hka => Crash_is W D h a2 c2 _ ks rfl (by omega) hr hka at_ s hs
  rw [← hdc] at hfl hst
  simp only [hdc, ← hxF] at CRx
  simp only [← hdc] at CRx CP
  simp only [hfl, hst] at FLy
  rw [hdc, ← hdf] at hfl
  rw [← hdc] at hfl
  simp only [hdc] at FLy
  simp only [← hdf] at FLy
  simp only [← hdc] at FLy
  simp only [hdf, ← hyF] at CRy
  simp only [← hdf] at CRy
  have HIL := hid hILen
  clear hIMG hxF hyF hdc hdf hfl hst hcalm hall hyn hyw hILen hnl hxl hyl hxi hyi hg hwn hK
  unfold ptr at *
  have IM0 := hid IM
  go_enter Try.func6, Try.ntmps6
  go_wp2_with fail
  refine MA.mono ?_
  rintro e v1 ⟨D, S1, s1, G1, rfl, i1, n1, p1, b1⟩
  have hrk1 := hrk.below b1
  clear MA n1 p1 hr hz
  go_wp2_with fail
  refine (IM _ _ _ _ i1).mono ?_
  rintro e v2 ⟨A2, cI, rfl, g2, b2⟩
  obtain ⟨gI, rfl, hgI1, hgI2⟩ := own_adr g2 (by intro e; have := HIL.out; rw [e] at this; simp at this)
  have i2 := i1.below b2
  have bb2 := b1.trans (b2.mono b1.size)
  go_wp2_with fail
  refine (CP _ _ _ _ i2).mono ?_
  rintro e v3 ⟨E1, Sx, rfl, x3, b3⟩
  have i3 := i2.below b3
  have g3 := g2.below b3
  have bb3 := bb2.trans (b3.mono bb2.size)
  go_wp2_with fail
  refine (CP _ _ _ _ i3).mono ?_
  rintro e v4 ⟨E2, Sy, rfl, y4, b4⟩
  have i4 := i3.below b4
  have x4 := x3.below b4
  have g4 := g3.below b4
  have bb4 := bb3.trans (b4.mono bb3.size)
  have H1 := hid (fun b (hb : S1 b) => And.intro (i1.blocks hb).1 (i1.blocks hb).2.1)
  have Hx := hid (fun b (hb : Sx b) => And.intro (x3.blocks hb).1 (x3.blocks hb).2.1)
  have Hy := hid (fun b (hb : Sy b) => And.intro (y4.blocks hb).1 (y4.blocks hb).2.1)
  have z1 := b1.size; have z2 := b2.size; have z3 := b3.size; have z4 := b4.size
  clear i1 i2 i3 x3 g2 g3 b1 b2 b3 b4 bb2 bb3 IM
  go_wp2_with fail
  refine (PE _ _ _ _ i4).mono ?_
  rintro e v5 ⟨A5, c5, rfl, h5, b5⟩
  have i5 := i4.below b5
  have x5 := x4.below b5
  have y5 := y4.below b5
  have g5 := g4.below b5
  have bb5 := bb4.trans (b5.mono bb4.size)
  have z5 := b5.size
  clear i4 x4 y4 g4 b5 bb4 h5 PE CP
  go_wp2_with fail
  obtain ⟨v6, hv6⟩ : ∃ v6, v6 = v5.alloc (.cells (madeCells #[.bool false] K) 4) := ⟨_, rfl⟩
  have b6 : Below v5.heap.size v5 v6 := by rw [hv6]; exact (Below.refl _ _).alloc (Nat.le_refl _) _
  have o6 : v6.ownsRow v5.heap.size 4 1 (.slice (some ⟨v5.heap.size, 0, none⟩) K K) K (Bools (List.replicate 0 true ++ List.replicate (K - 0) false)) := by
    have h := World.ownsRow_lit (base := v5.heap.size) (e := 4) (size := 1) v5 (madeCells #[.bool false] K) K (Nat.le_refl _) (by simp only [maxLen]; omega) (by simp [size_madeCells])
    rw [madeBo] at h
    rw [hv6]
    simpa using h
  rw [← hv6]
  have HV6 := hid hv6
  clear hv6
  go_loopw [15] (fun i wr => ∃ k : Nat, k ≤ K ∧ i = .int .i64 k ∧ wr.ownsRow v5.heap.size 4 1 (.slice (some ⟨v5.heap.size, 0, none⟩) K K) K (Bools (List.replicate k true ++ List.replicate (K - k) false)) ∧ Below v5.heap.size v5 wr) (fun i _ => K - (intOf i).toNat)
  case atStart => exact ⟨0, by omega, rfl, o6, b6⟩
  case round =>
    obtain ⟨k, hk, rfl, ho, hb⟩ := hrel
    by_cases hlt : k < K
    · have hbl : (Bools (List.replicate k true ++ List.replicate (K - k) false)).length = K := by simp [Bools]; omega
      have cl := ho.cells (g := v5.heap.size) rfl k _ (List.getElem?_eq_getElem (show k < (Bools (List.replicate k true ++ List.replicate (K - k) false)).length by rw [hbl]; exact hlt))
      rw [add_plain, Nat.zero_add] at cl
      have fz := World.ownsRow.frozenAt ho k
      have st := (World.ownsRow.stored ho k (.bool true)).1
      have e0 : (List.replicate k true ++ List.replicate (K - k) false).set k true = List.replicate (k + 1) true ++ List.replicate (K - (k + 1)) false := by
        rw [List.set_append_right _ _ (by simp), List.length_replicate, Nat.sub_self, show K - k = (K - (k + 1)) + 1 by omega, List.replicate_succ (a := false), List.set_cons_zero, List.replicate_succ' (a := true), List.append_assoc]
        rfl
      have e1 : (Bools (List.replicate k true ++ List.replicate (K - k) false)).set k (.bool true) = Bools (List.replicate (k + 1) true ++ List.replicate (K - (k + 1)) false) := by
        rw [← e0]
        simp only [Bools, List.map_set]
      rw [e1] at st
      have ST := hid st
      clear st e1 e0 ho
      go_wp2_with fail
      exact ⟨⟨k + 1, by omega, by go_num, ST.out, hb.setCell (p := ⟨v5.heap.size, k, none⟩) (Nat.le_refl _) _⟩, by simp [intOf]; omega⟩
    · obtain rfl : k = K := by omega
      have i7 := i5.below hb
      have x7 := x5.below hb
      have y7 := y5.below hb
      have g7 := g5.below hb
      have bb7 := bb5.trans (hb.mono bb5.size)
      have hrB : RdV wr (some ⟨v5.heap.size, 0, none⟩) (Bools (List.replicate k true)) := by
        have := RdV.own ho
        rw [Nat.sub_self] at this
        simpa using this
      have hlt7 : v5.heap.size ≤ wr.heap.size := hb.size
      clear i5 x5 y5 g5 bb5 ho hb b6 o6 hlt HV6
      go_wp2_with fail
      refine (CRx _ _ _ _ x7 _ hrB (by rintro _ x off e; cases e; intro hS; have := Hx.out _ hS; omega)).mono ?_
      rintro e v8 ⟨rfl, t8⟩
      obtain ⟨Sx', x8, k8, s8⟩ := t8
      have x8a : IsDk AnyB v2.heap.size v8 E1 Sx' xF := x8.monoQ (fun _ _ => trivial)
      have i8 := i7.kpt k8 x7.nou (fun b hb hs => by have := H1.out b hb; have := Hx.out b hs; omega)
      have y8 := y7.kpt k8 x7.nou (fun b hb hs => by have := Hy.out b hb; have := Hx.out b hs; omega)
      have g8 := g7.kpt' k8 x7.nou
      have bb8 := kpt_below' bb7 k8 bb7.size (fun j hj hs => by have := Hx.out j hs; have := bb7.size; omega)
      have z8 := k8.size
      have Hx' := hid (fun b (hb : Sx' b) => And.intro (s8 b hb) (x8.blocks hb).2.1)
      clear x7 i7 y7 g7 k8 s8 x8 CRx hrB
      go_wp2_with fail
      refine (FLy _ _ _ _ y8).mono ?_
      rintro e v9 ⟨rfl, t9⟩
      obtain ⟨Sy', y9, k9, s9⟩ := t9
      have i9 := i8.kpt k9 y8.nou (fun b hb hs => by have := H1.out b hb; have := Hy.out b hs; omega)
      have x9 := x8a.kpt k9 y8.nou (fun b hb hs => by
        have h1 := Hy.out b hs
        rcases (Hx'.out b hb).1 with h | h
        · have := Hx.out b h; omega
        · omega)
      have g9 := g8.kpt' k9 y8.nou
      have bb9 := kpt_below' bb8 k9 bb8.size (fun j hj hs => by have := Hy.out j hs; have := H1.out; have := bb7.size; omega)
      have z9 := k9.size
      have Hy' := hid (fun b (hb : Sy' b) => And.intro (s9 b hb) (y9.blocks hb).2.1)
      clear y8 i8 x8a g8 k9 s9 FLy
      have hrk9 := hrk.below bb9
      have hka : 0 < ks.length → ∀ x off, a2 = some ⟨x, off, none⟩ → ¬ Sy' x := by
        rintro hp x off rfl hS
        have h0 := rd_lt hrk (bools_ne' hp)
        rcases (Hy'.out x hS).1 with h | h
        · have := Hy.out x h; have := bb7.size; omega
        · have := bb8.size; omega
      go_wp2_with fail
      refine (CRy _ _ _ _ y9 hrk9 hka).mono ?_
      rintro e v10 ⟨rfl, t10⟩
      obtain ⟨Sy2, y10, k10, s10⟩ := t10
      have y10a : IsDk AnyB v3.heap.size v10 E2 Sy2 yF := y10.monoQ (fun _ _ => trivial)
      have i10 := i9.kpt k10 y9.nou (fun b hb hs => by
        have h0 := H1.out b hb
        rcases (Hy'.out b hs).1 with h | h
        · have := Hy.out b h; omega
        · omega)
      have x10 := x9.kpt k10 y9.nou (fun b hb hs => by
        have h0 := Hx'.out b hb
        rcases (Hy'.out b hs).1 with h | h
        · have h2 := Hy.out b h
          rcases h0.1 with h1 | h1
          · have := Hx.out b h1; omega
          · omega
        · omega)
      have g10 := g9.kpt' k10 y9.nou
      have bb10 := kpt_below' bb9 k10 bb9.size (fun j hj hs => by
        have := bb7.size
        rcases (Hy'.out j hs).1 with h | h
        · have := Hy.out j h; omega
        · omega)
      clear y9 i9 x9 g9 k10 s10 y10 CRy hrk9 hka bb7 bb8 bb9
      have g10r := g10.rd
      go_wp2_with fail
      refine (IMx _ _ _ _ x10).mono ?_
      rintro e v11 ⟨A11, c11, rfl, f11, b11⟩
      have SB := SameBytes_self v11 A11 (some ⟨gI, 0, none⟩) c11 cI (4096 * 4) (4096 * 4) IMG HIL.out.symm HIL.out.symm f11.rd (g10r.below b11)
      have i11 := i10.below b11
      have y11 := y10a.below b11
      have g11 := g10r.below b11
      have bb11 := bb10.trans (b11.mono bb10.size)
      clear x10 i10 y10a g10 g10r f11 b11 bb10 IMx
      go_wp2_with fail
      refine SB.mono ?_
      rintro e v12 ⟨rfl, rfl⟩
      clear SB
      go_wp2_with fail
      refine (IMy _ _ _ _ y11).mono ?_
      rintro e v13 ⟨A13, c13, rfl, f13, b13⟩
      have SB := SameBytes_self v13 A13 (some ⟨gI, 0, none⟩) c13 cI (4096 * 4) (4096 * 4) IMG HIL.out.symm HIL.out.symm f13.rd (g11.below b13)
      have i13 := i11.below b13
      have y13 := y11.below b13
      have g13 := g11.below b13
      have bb13 := bb11.trans (b13.mono bb11.size)
      clear i11 y11 g11 f13 b13 bb11 IMy
      go_wp2_with fail
      refine SB.mono ?_
      rintro e v14 ⟨rfl, rfl⟩
      clear SB
      go_wp2_with fail
      refine (IM0.out _ _ _ _ i13).mono ?_
      rintro e v15 ⟨A15, c15, rfl, f15, b15⟩
      have SB := SameBytes_self v15 A15 (some ⟨gI, 0, none⟩) c15 cI (4096 * 4) (4096 * 4) IMG HIL.out.symm HIL.out.symm f15.rd (g13.below b15)
      have y15 := y13.below b15
      have bb15 := bb13.trans (b15.mono bb13.size)
      clear i13 y13 g13 f15 b15 bb13
      go_wp2_with fail
      refine SB.mono ?_
      rintro e v16 ⟨rfl, rfl⟩
      clear SB
      go_wp2_with fail
      refine (PEy _ _ _ _ y15).mono ?_
      rintro e v17 ⟨A17, c17, rfl, h17, b17⟩
      have bb17 := bb15.trans (b17.mono bb15.size)
      clear y15 h17 b17 bb15 PEy
      go_wp2_with fail
      refine (AW _).mono ?_
      rintro e v18 ⟨rfl, b18⟩
      go_wp2
      go_ret
      exact ⟨rfl, bb17.trans (b18.mono bb17.size)⟩
end Go.Proofs.Ytddejjmebokgiaa
