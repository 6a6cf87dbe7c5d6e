/- Texts joined: BtM, Ext, Ext2, Sup2. -/
import Derived.Lib.SliceRun
import Derived.Deep.QuietTactic
import Derived.BigQuiet
import Derived.Deep.RegionHeld3
import Derived.BigRegion
import Derived.Test.YtahlhdhljjpeoaaGBitsErrors1
import Derived.Test.YtahlhdhljjpeoaaGBitsErrors2
import Derived.Test.YtahlhdhljjpeoaaGBitsErrors5
import Derived.Test.YtahlhdhljjpeoaaGBitsErrors7
/- bits.Free (printed by gen24h.py). -/
namespace Go.Proofs.Ytahlhdhljjpeoaa
open Go.RowKit
set_option maxHeartbeats 3200000
set_option maxRecDepth 100000
set_option linter.unusedVariables false
set_option linter.unusedSimpArgs false

/-- Is it a part of the data? -/
def frOk (l : Lay) (st ct : Int) : Bool := decide (l.da ≤ st ∧ st < l.bl ∧ 1 ≤ ct ∧ ct ≤ l.bl - st)
/-- The block of bits is written. -/
def wrBit (d : Pl) (l : Lay) (u : List Bool) : Pl × Int := if d.spent = true then (d.tick, 4) else (d.tick.put l.bi.toNat (wrB u), 0)
def frB (u : List Bool) (st ct : Nat) : Bool := ((u.drop st).take ct).contains false
def freP (d : Pl) (l : Lay) (st ct : Int) : Pl × Int :=
  if rightL l = true then if frOk l st ct = true then if usedE d l = 0 then if frB (usedU d l) st.toNat ct.toNat = true then (d.tick, 30) else wrBit d.tick l (setU (usedU d l) st.toNat ct.toNat false)
    else (d.tick, usedE d l) else (d, 2) else (d, 2)
theorem own_setCells {W : World} {base g N c : Nat} {e : TypeId} {u : List Bool} {st k : Nat} {v : Bool} (m : Nat) (h : W.ownsRow base e 1 (.slice (some ⟨g, 0, none⟩) N c) N (BvL (setU u st k v))) :
    (W.setCells g (st + k) (List.replicate m (.bool v))).ownsRow base e 1 (.slice (some ⟨g, 0, none⟩) N c) N (BvL (setU u st (k + m) v)) := by
  induction m generalizing W k with
  | zero => exact h
  | succ m ih =>
    have h1 := (World.ownsRow.stored h (st + k) (.bool v)).1
    have e1 : (BvL (setU u st k v)).set (st + k) (.bool v) = BvL (setU u st (k + 1) v) := by
      rw [← setU_succ]
      simp only [BvL, List.map_set]
    rw [e1] at h1
    have h2 := ih h1
    rw [show k + 1 + m = k + (m + 1) by omega] at h2
    exact h2
theorem kpt_setCells (g : Nat) : ∀ (vs : List Value) (o : Nat) (w : World), Kpt (fun b => b = g) w (w.setCells g o vs)
  | [], o, w => Kpt.refl _ _
  | v :: r, o, w => (Kpt.setCell (Kpt.refl (fun b => b = g) w) (p := ⟨g, o, none⟩) rfl v).trans (kpt_setCells g r (o + 1) _)
theorem RdV.partB {w : World} {g : Nat} {u : List Bool} (h : RdV w (some ⟨g, 0, none⟩) (BvL u)) (st n : Nat) : RdV w (some ⟨g, st, none⟩) (BvL ((u.drop st).take n)) := by
  have h2 := (h.drop st (st + 1 + u.length) 1 (by rw [BvL_length]; omega)).take n
  rw [if_neg (by omega)] at h2
  simp only [Option.map_some, add_plain, Nat.zero_add, Nat.mul_one] at h2
  have e : BvL ((u.drop st).take n) = ((BvL u).drop st).take n := by simp [BvL, List.map_take, List.map_drop]
  rw [e]
  exact h2
theorem Free_wrong {base : Nat} (w : World) (P : Nat) {S : Nat → Prop} {d : Pl} (h : IsPl QT base w P S d) (l : Lay) (hR : rightL l = false) (st ct : Int) :
    Calls Try.prog 20 #[spV P, l.val, .int .i64 st, .int .i64 ct] w fun e w' => e = .returned (.int .i64 2) ∧ TurnP QT base w P S w' d := by
  have WR := fun w => bitsWrong_any w P l
  have hw : wrgE l = 2 := by simp [wrgE, hR]
  simp only [hw] at WR
  have H := hid h
  clear h hw hR
  obtain ⟨b0, b1, b2, b3, b4, b5, b6⟩ := l
  simp only [Lay.val, spV] at WR ⊢
  obtain ⟨W0, hW0⟩ : ∃ W0, W0 = w.alloc (.cells #[.int .i64 b0, .int .i64 b1, .int .i64 b2, .int .i64 b3, .int .i64 b4, .int .i64 b5, .int .i64 b6] 39) := ⟨_, rfl⟩
  have hrow := heap_alloc_new w (.cells #[.int .i64 b0, .int .i64 b1, .int .i64 b2, .int .i64 b3, .int .i64 b4, .int .i64 b5, .int .i64 b6] 39)
  have hB0 : Below w.heap.size w (w.alloc (.cells #[.int .i64 b0, .int .i64 b1, .int .i64 b2, .int .i64 b3, .int .i64 b4, .int .i64 b5, .int .i64 b6] 39)) := (Below.refl _ _).alloc (Nat.le_refl _) _
  rw [← hW0] at hrow hB0
  have WR := WR W0
  have HW0 := hid hW0; have HROW := hid hrow; have HB0 := hid hB0
  rw [hW0] at WR
  clear hW0 hrow hB0
  go_enter Try.func20, Try.ntmps20
  go_wp2_with fail
  refine WR.mono ?_
  rw [← HW0.out]
  rintro e w1 ⟨rfl, b1'⟩
  have HB := hid (HB0.out.trans (b1'.mono HB0.out.size))
  clear WR b1'
  go_wp2
  go_ret
  exact ⟨rfl, H.out.still HB.out⟩
theorem Free_no {base : Nat} (w : World) (P : Nat) {S : Nat → Prop} {d : Pl} (h : IsPl QT base w P S d) (l : Lay) (hR : rightL l = true) (st ct : Int) (hst : -9223372036854775808 ≤ st ∧ st ≤ 9223372036854775807) (hct : -9223372036854775808 ≤ ct ∧ ct ≤ 9223372036854775807) (hf : frOk l st ct = false) :
    Calls Try.prog 20 #[spV P, l.val, .int .i64 st, .int .i64 ct] w fun e w' => e = .returned (.int .i64 2) ∧ TurnP QT base w P S w' d := by
  have WR := fun w => bitsWrong_any w P l
  have hw : wrgE l = 0 := by simp [wrgE, hR]
  simp only [hw] at WR
  have H := hid h
  have hin := right_in hR
  have hf := of_decide_eq_false hf
  have HIN := hid hin
  clear h hw hR
  obtain ⟨b0, b1, b2, b3, b4, b5, b6⟩ := l
  simp only [Lay.val, spV] at WR hf HIN ⊢
  have HF := hid hf
  clear hin hf
  obtain ⟨W0, hW0⟩ : ∃ W0, W0 = w.alloc (.cells #[.int .i64 b0, .int .i64 b1, .int .i64 b2, .int .i64 b3, .int .i64 b4, .int .i64 b5, .int .i64 b6] 39) := ⟨_, rfl⟩
  have hrow := heap_alloc_new w (.cells #[.int .i64 b0, .int .i64 b1, .int .i64 b2, .int .i64 b3, .int .i64 b4, .int .i64 b5, .int .i64 b6] 39)
  have hB0 : Below w.heap.size w (w.alloc (.cells #[.int .i64 b0, .int .i64 b1, .int .i64 b2, .int .i64 b3, .int .i64 b4, .int .i64 b5, .int .i64 b6] 39)) := (Below.refl _ _).alloc (Nat.le_refl _) _
  rw [← hW0] at hrow hB0
  have WR := WR W0
  have HW0 := hid hW0; have HROW := hid hrow; have HB0 := hid hB0
  rw [hW0] at WR
  clear hW0 hrow hB0
  go_enter Try.func20, Try.ntmps20
  go_wp2_with fail
  refine WR.mono ?_
  rw [← HW0.out]
  rintro e w1 ⟨rfl, b1'⟩
  obtain ⟨y0, y1, y2, y3, y4, y5, y6⟩ := cells7b ((b1'.block _ (heap_in HROW.out)).trans HROW.out)
  have HB := hid (HB0.out.trans (b1'.mono HB0.out.size))
  clear WR b1'
  have hf := HF.out
  have hin := HIN.out
  clear HIN HF
  by_cases c1 : st < b6
  · clear hf hin
    go_wp2
    go_ret
    exact ⟨rfl, H.out.still HB.out⟩
  by_cases c2 : b0 ≤ st
  · clear hf hin
    go_wp2
    go_ret
    exact ⟨rfl, H.out.still HB.out⟩
  by_cases c3 : ct < 1
  · clear hf hin
    go_wp2
    go_ret
    exact ⟨rfl, H.out.still HB.out⟩
  have c4 : b0 - st < ct := by omega
  have c4' : IntKind.i64.wrap (b0 - st) = b0 - st := IntWalk.i64_in _ (by omega)
  clear hf hin
  go_wp2
  go_ret
  exact ⟨rfl, H.out.still HB.out⟩
theorem Free_yes {base : Nat} (w : World) (P : Nat) {S : Nat → Prop} {d : Pl} (h : IsPl QT base w P S d) (hl : -10000000 ≤ d.left) (hd : d.did ≤ 100000) (l : Lay) (hbl : l.bl = (d.b.length : Int)) (hR : rightL l = true) (st0 ct0 : Int) (hf : frOk l st0 ct0 = true) :
    Calls Try.prog 20 #[spV P, l.val, .int .i64 st0, .int .i64 ct0] w fun e w' => e = .returned (.int .i64 (freP d l st0 ct0).2) ∧ TurnP QT base w P S w' (freP d l st0 ct0).1 := by
  have WR := fun w => bitsWrong_any w P l
  have hw : wrgE l = 0 := by simp [wrgE, hR]
  simp only [hw] at WR
  have hin := right_in hR
  have hff := of_decide_eq_true hf
  have hUD : usedD d l = d.tick := by simp [usedD, hR]
  have hFP : freP d l st0 ct0 = if usedE d l = 0 then if frB (usedU d l) st0.toNat ct0.toNat = true then (d.tick, 30) else wrBit d.tick l (setU (usedU d l) st0.toNat ct0.toNat false) else (d.tick, usedE d l) := by
    simp only [freP, hR, hf, if_true]
  obtain ⟨R, hRe⟩ : ∃ R, R = freP d l st0 ct0 := ⟨_, rfl⟩
  rw [← hRe] at hFP ⊢
  have US := fun (W : World) (hW : IsPl QT base W P S d) => Used_is W P hW (by omega) l (fun _ => hbl)
  rw [hUD] at US
  obtain ⟨N, hN⟩ : ∃ N : Nat, N = d.b.length := ⟨_, rfl⟩
  rw [← hN] at hbl
  obtain ⟨bi, hbi⟩ : ∃ n : Nat, l.bi = (n : Int) := ⟨l.bi.toNat, by omega⟩
  obtain ⟨da, hda⟩ : ∃ n : Nat, l.da = (n : Int) := ⟨l.da.toNat, by omega⟩
  obtain ⟨st, rfl⟩ : ∃ n : Nat, st0 = (n : Int) := ⟨st0.toNat, by omega⟩
  obtain ⟨ct, rfl⟩ : ∃ n : Nat, ct0 = (n : Int) := ⟨ct0.toNat, by omega⟩
  have hbiN : bi < N := by omega
  have hN5 : N ≤ 512 := by omega
  have hct1 : 1 ≤ ct := by omega
  have hstct : st + ct ≤ N := by omega
  have hdst : da ≤ st := by omega
  simp only [Int.toNat_natCast] at hFP
  have hlen : usedE d l = 0 → (usedU d l).length = N := fun e => by
    rw [usedU, if_pos e, usedOf_length, hbl, Int.toNat_natCast]
  have WTf := fun (W : World) (A : Option Addr) (c : Nat) (u : List Bool) (hu : u.length = N) (hr : RdV W A (BvL u)) => written_any W l hR A N c u hu.symm (by rw [hu]; omega) hr
  have hWB : ∀ u, wrBit d.tick l u = if d.tick.spent = true then (d.tick.tick, 4) else (d.tick.tick.put bi (wrB u), 0) := fun u => by rw [wrBit, hbi, Int.toNat_natCast]
  rw [hWB] at hFP
  have HN := hid hN; have HWT := hid WTf; have H := hid h; have HUS := hid US; have HLEN := hid hlen; have HFP := hid hFP
  have htick := hid (tick_b d)
  have htl : d.left - 1 ≤ d.tick.left := by
    unfold Pl.tick
    split
    · exact Int.le_refl _
    · omega
  clear hN WTf h hw hR hin hff hf hFP hUD US hlen hWB hRe
  obtain ⟨b0, b1, b2, b3, b4, b5, b6⟩ := l
  simp only [Lay.val, spV] at WR HWT HUS hbl hbi hda ⊢
  subst hbl hbi hda
  obtain ⟨W0, hW0⟩ : ∃ W0, W0 = w.alloc (.cells #[.int .i64 (N : Int), .int .i64 b1, .int .i64 b2, .int .i64 (bi : Int), .int .i64 b4, .int .i64 b5, .int .i64 (da : Int)] 39) := ⟨_, rfl⟩
  have hrow := heap_alloc_new w (.cells #[.int .i64 (N : Int), .int .i64 b1, .int .i64 b2, .int .i64 (bi : Int), .int .i64 b4, .int .i64 b5, .int .i64 (da : Int)] 39)
  have hB0 : Below w.heap.size w (w.alloc (.cells #[.int .i64 (N : Int), .int .i64 b1, .int .i64 b2, .int .i64 (bi : Int), .int .i64 b4, .int .i64 b5, .int .i64 (da : Int)] 39)) := (Below.refl _ _).alloc (Nat.le_refl _) _
  rw [← hW0] at hrow hB0
  have WR := WR W0
  have HW0 := hid hW0; have HROW := hid hrow; have HB0 := hid hB0
  rw [hW0] at WR
  clear hW0 hrow hB0
  go_enter Try.func20, Try.ntmps20
  go_wp2_with fail
  refine WR.mono ?_
  rw [← HW0.out]
  rintro e w1 ⟨rfl, b1'⟩
  have hb1 := HB0.out.trans (b1'.mono HB0.out.size)
  have hrow1 := (b1'.block _ (heap_in HROW.out)).trans HROW.out
  obtain ⟨y0, y1, y2, y3, y4, y5, y6⟩ := cells7b hrow1
  have US := HUS.out w1 (H.out.below hb1)
  have HB1 := hid hb1; have HROW1 := hid hrow1
  have c1 : ¬ (st : Int) < (da : Int) := by omega
  have c2 : ¬ (N : Int) ≤ (st : Int) := by omega
  have c3 : ¬ (ct : Int) < 1 := by omega
  have c4 : ¬ (N : Int) - (st : Int) < (ct : Int) := by omega
  have c4' : IntKind.i64.wrap ((N : Int) - (st : Int)) = (N : Int) - (st : Int) := IntWalk.i64_in _ (by omega)
  clear WR b1' hb1 hrow1 HUS
  go_wp2_with fail
  refine US.mono ?_
  rintro e w2 ⟨⟨A2, N2, c2', rfl, hN2, ho2⟩, hi2, hk2⟩
  clear US c1 c2 c3 c4 c4'
  have hSw : ¬ S w.heap.size := fun hs => by have := (H.out.blocks hs).2.1; omega
  have hrow2 := (hk2.block _ (heap_in HROW1.out) hSw).trans HROW1.out
  have hkw : Kpt S w w2 := (Kpt.of_below HB1.out).trans hk2
  obtain ⟨E, hE⟩ : ∃ E, E = usedE d ⟨(N : Int), b1, b2, (bi : Int), b4, b5, (da : Int)⟩ := ⟨_, rfl⟩
  obtain ⟨u, hu⟩ : ∃ u, u = usedU d ⟨(N : Int), b1, b2, (bi : Int), b4, b5, (da : Int)⟩ := ⟨_, rfl⟩
  have hlen := HLEN.out
  have hfp := HFP.out
  simp only [← hE, ← hu] at hlen ho2 hN2 hfp ⊢
  clear hE hu HLEN HFP
  by_cases hE0 : E = 0
  · subst hE0
    have hlen := hlen rfl
    rw [hlen] at hN2
    have hN2 := hN2.symm
    subst hN2
    obtain ⟨gO, cO, eO, hg1, hg2⟩ := own_sl1 ho2 (by omega)
    simp only [Value.slice.injEq, true_and] at eO
    obtain ⟨rfl, rfl⟩ := eO
    have hcap := own_cap ho2
    have hrd : RdV w2 (some ⟨gO, 0, none⟩) (BvL u) := own_rdV ho2 (by rw [BvL_length, hlen, Nat.mul_one])
    have CT := Contains_any w2 (some ⟨gO, st, none⟩) ct (c2' - st) ((u.drop st).take ct) (by rw [List.length_take, List.length_drop]; omega) (by omega) (hrd.partB st ct) false
    have hfrb : frB u st ct = ((u.drop st).take ct).contains false := rfl
    rw [← hfrb] at CT
    have t1 : (st : Int) + (ct : Int) ≤ (c2' : Int) := by have := hcap.1; omega
    have t2 : ((st : Int) + (ct : Int)).toNat = st + ct := by omega
    have t3 : st + ct - st = ct := by omega
    have t4 : ¬ c2' = st := by have := hcap.1; omega
    have t5 : IntKind.i64.wrap ((st : Int) + (ct : Int)) = (st : Int) + (ct : Int) := IntWalk.i64_in _ (by omega)
    rw [if_pos rfl] at hfp
    cases hfb : frB u st ct with
    | true => as_aux_lemma =>
      rw [hfb] at CT hfp
      rw [if_pos rfl] at hfp
      have HI := hid hi2; have HK := hid hkw; have HR := hid hfp
      clear hfp hi2 hkw hrow2 hk2 ho2 hrd hfrb hfb y0 y1 y2 y3 y4 y5 y6
      go_wp2_with fail
      refine CT.mono ?_
      rintro e w3 ⟨rfl, rfl⟩
      clear CT
      go_wp2
      go_ret
      rw [HR.out]
      exact ⟨rfl, S, HI.out, HK.out, fun b hb => .inl hb⟩
    | false => as_aux_lemma =>
      rw [hfb] at CT hfp
      rw [if_neg (by decide)] at hfp
      have HR := hid hfp
      clear hfp
      have hzb : ∀ w, (zeroValue 4).run Try.prog w = .ok (.bool false) w := fun w => by
        obtain ⟨i0, hi, hz0, hz1, hz2⟩ := info_parts info_bo
        simp [zeroValue, typeInfo, hi, hz0]
      have hclr := fun ty => Go.Lib.run_clear_slice (P := Try.prog) w2 42 4 ty (.bool false) Try.underlying42 hzb rfl rfl gO st ct (c2' - st) (by omega)
        (fun j hj => by rw [World.ownsRow.cellAt ho2 (st + j) (by omega)]; simp [BvL, List.getElem?_eq_getElem (show st + j < u.length by omega)]) (fun j hj => World.ownsRow.frozenAt ho2 (st + j))
      have hoc := own_setCells (st := st) (k := 0) (v := false) ct (by rw [setU_zero]; exact ho2)
      rw [Nat.zero_add, Nat.add_zero] at hoc
      have hkc := kpt_setCells gO (List.replicate ct (.bool false)) st w2
      obtain ⟨w3, hw3⟩ : ∃ w3, w3 = w2.setCells gO st (List.replicate ct (.bool false)) := ⟨_, rfl⟩
      rw [← hw3] at hoc hkc
      simp only [← hw3] at hclr
      have hgw : gO ≠ w.heap.size := by have := HB1.out.size; have := heap_in HROW1.out; omega
      have hrow3 := (hkc.block _ (heap_in hrow2) (fun e => hgw e.symm)).trans hrow2
      have hgS : ¬ S gO := fun hs => by
        have h1 := ((H.out.below HB1.out).blocks hs).2.1
        omega
      have hnuG : ∀ b, b = gO → ¬ U8 w2 b := by
        rintro b rfl
        obtain ⟨_, _, cs, hc⟩ := own_row ho2 (b := b) rfl
        exact row_not_u8 hc (by decide)
      have hi3 := hi2.kpt hkc hnuG (fun b hb e => hgS (e ▸ hb))
      have hkw3 : Kpt S w w3 := hkw.upP hkc (fun b hb => .inr (by have := HB1.out.size; omega))
      have hbD0 : Kpt S w w3.drew := hkw3.trans (Kpt.of_below (below_dr w3))
      have hrD : w3.drew.heap[w.heap.size]? = some (.cells #[.int .i64 (N : Int), .int .i64 b1, .int .i64 b2, .int .i64 (bi : Int), .int .i64 b4, .int .i64 b5, .int .i64 (da : Int)] 39 (0, 0)) := hrow3
      have hul3 : (setU u st ct false).length = N := by rw [setU_length, hlen]
      have WT := HWT.out w3.drew (some ⟨gO, 0, none⟩) c2' (setU u st ct false) hul3 ((own_rdV hoc (by rw [BvL_length, hul3, Nat.mul_one])).kept (below_dr w3))
      have sX := cells7b hrD
      have hiD := hi3.below (below_dr w3)
      have hNS : ¬ S w.heap.size := hSw
      have WRf : ∀ (v4 : World), Below w3.drew.heap.size w3.drew v4 → ∀ g, OwnB w3.drew.heap.size v4 (some ⟨g, 0, none⟩) 4096 (wrB (setU u st ct false)) → Calls Try.prog 46 #[.pointer (some ⟨P, 0, none⟩), .int .i64 (bi : Int), .slice (some ⟨g, 0, none⟩) 4096 4096] v4 fun e w' => e = .returned (.int .i64 (if d.tick.spent = true then 4 else 0)) ∧ TurnP QT base v4 P S w' (if d.tick.spent = true then d.tick.tick else d.tick.tick.put bi (wrB (setU u st ct false))) := by
        intro v4 b4 g o4
        refine Write_is v4 P (hiD.below b4) (by omega) bi (by rw [htick.out.1, ← HN.out]; exact hbiN) (some ⟨g, 0, none⟩) 4096 _ (wrB_length _) o4.rd (by rw [htick.out.2.2]; omega) (fun b hb e => by
          have h1 := o4.lt.1
          have h2 := hiD.lt
          simp only [Option.map_some, Option.some.injEq] at hb
          omega)
      have hna := fun W => nilA P W
      have HWR := hid WRf; have HRD := hid hrD; have HNS := hid hNS; have HKD := hid hbD0; have HC := hid hclr
      clear hi2 hkw hrow2 hk2 ho2 hrd hfrb hfb hoc hkc hw3 hrow3 hgS hnuG hi3 hkw3 hiD hNS WRf hbD0 hrD y0 y1 y2 y3 y4 y5 y6 hzb
      go_wp2_with fail
      refine CT.mono ?_
      rintro e v3 ⟨rfl, hv3⟩
      subst hv3
      clear CT
      go_wp2_with fail
      refine wp_region_held_drew (S := fun W1 => W1.cell? ⟨w.heap.size, 0, none⟩ = some (.int .i64 (N : Int)) ∧ W1.cell? ⟨w.heap.size, 1, none⟩ = some (.int .i64 b1) ∧ W1.cell? ⟨w.heap.size, 2, none⟩ = some (.int .i64 b2) ∧ W1.cell? ⟨w.heap.size, 3, none⟩ = some (.int .i64 (bi : Int)) ∧ W1.cell? ⟨w.heap.size, 4, none⟩ = some (.int .i64 b4) ∧ W1.cell? ⟨w.heap.size, 5, none⟩ = some (.int .i64 b5) ∧ W1.cell? ⟨w.heap.size, 6, none⟩ = some (.int .i64 (da : Int))) (by kernel_rfl) (by exact sX) (fun hHeld => ?_)
      refine wpAnyH_take (i := 0) (oi := ?o0z1) (v := ?v0z1) ?hi0z1 (by kernel_rfl) (by kernel_rfl) ?hr0z1 ?hQ0z1 ?hy0z1 hHeld ?r0z1
      case hi0z1 => (simp only [List.getElem?_toArray, List.getElem?_cons_zero, List.getElem?_cons_succ]; rfl)
      case hr0z1 => kernel_rfl
      case hQ0z1 => exact fun _ _ _ h => h
      case hy0z1 => (refine Or.inl ⟨by rfl, ?_⟩; intro w hSw; (try dsimp only at hSw); go_simp; try with_reducible rfl)
      try simp only [Act.put, List.setIfInBounds_toArray, List.set_cons_zero, List.set_cons_succ]
      refine wpAnyH_take (i := 1) (oi := ?o1z1) (v := ?v1z1) ?hi1z1 (by kernel_rfl) (by kernel_rfl) ?hr1z1 ?hQ1z1 ?hy1z1 hHeld ?r1z1
      case hi1z1 => (simp only [List.getElem?_toArray, List.getElem?_cons_zero, List.getElem?_cons_succ]; rfl)
      case hr1z1 => kernel_rfl
      case hQ1z1 => exact fun _ _ _ h => h
      case hy1z1 => (refine Or.inl ⟨by rfl, ?_⟩; intro w hSw; (try dsimp only at hSw); go_simp; try with_reducible rfl)
      try simp only [Act.put, List.setIfInBounds_toArray, List.set_cons_zero, List.set_cons_succ]
      refine wpAnyH_take (i := 2) (oi := ?o2z1) (v := ?v2z1) ?hi2z1 (by kernel_rfl) (by kernel_rfl) ?hr2z1 ?hQ2z1 ?hy2z1 hHeld ?r2z1
      case hi2z1 => (simp only [List.getElem?_toArray, List.getElem?_cons_zero, List.getElem?_cons_succ]; rfl)
      case hr2z1 => kernel_rfl
      case hQ2z1 => exact fun _ _ _ h => h
      case hy2z1 => (refine Or.inl ⟨by rfl, ?_⟩; intro w hSw; (try dsimp only at hSw); go_simp; try with_reducible rfl)
      try simp only [Act.put, List.setIfInBounds_toArray, List.set_cons_zero, List.set_cons_succ]
      refine wpAnyH_take (i := 3) (oi := ?o3z1) (v := ?v3z1) ?hi3z1 (by kernel_rfl) (by kernel_rfl) ?hr3z1 ?hQ3z1 ?hy3z1 hHeld ?r3z1
      case hi3z1 => (simp only [List.getElem?_toArray, List.getElem?_cons_zero, List.getElem?_cons_succ]; rfl)
      case hr3z1 => kernel_rfl
      case hQ3z1 => exact fun _ _ _ h => h
      case hy3z1 => (refine Or.inl ⟨by rfl, ?_⟩; intro w hSw; (try dsimp only at hSw); go_simp; try with_reducible rfl)
      try simp only [Act.put, List.setIfInBounds_toArray, List.set_cons_zero, List.set_cons_succ]
      refine wpAnyH_take (i := 4) (oi := ?o4z1) (v := ?v4z1) ?hi4z1 (by kernel_rfl) (by kernel_rfl) ?hr4z1 ?hQ4z1 ?hy4z1 hHeld ?r4z1
      case hi4z1 => (simp only [List.getElem?_toArray, List.getElem?_cons_zero, List.getElem?_cons_succ]; rfl)
      case hr4z1 => kernel_rfl
      case hQ4z1 => exact fun _ _ _ h => h
      case hy4z1 => (refine Or.inl ⟨by rfl, ?_⟩; intro w hSw; (try dsimp only at hSw); go_simp; try with_reducible rfl)
      try simp only [Act.put, List.setIfInBounds_toArray, List.set_cons_zero, List.set_cons_succ]
      refine wpAnyH_take (i := 6) (oi := ?o6z1) (v := ?v6z1) ?hi6z1 (by kernel_rfl) (by kernel_rfl) ?hr6z1 ?hQ6z1 ?hy6z1 hHeld ?r6z1
      case hi6z1 => (simp only [List.getElem?_toArray, List.getElem?_cons_zero, List.getElem?_cons_succ]; rfl)
      case hr6z1 => kernel_rfl
      case hQ6z1 => exact fun _ _ _ h => h
      case hy6z1 => (refine Or.inl ⟨by rfl, ?_⟩; intro w hSw; (try dsimp only at hSw); go_simp; try with_reducible rfl)
      try simp only [Act.put, List.setIfInBounds_toArray, List.set_cons_zero, List.set_cons_succ]
      refine wpAnyH_take (i := 7) (oi := ?o7z1) (v := ?v7z1) ?hi7z1 (by kernel_rfl) (by kernel_rfl) ?hr7z1 ?hQ7z1 ?hy7z1 hHeld ?r7z1
      case hi7z1 => (simp only [List.getElem?_toArray, List.getElem?_cons_zero, List.getElem?_cons_succ]; rfl)
      case hr7z1 => kernel_rfl
      case hQ7z1 => exact fun _ _ _ h => h
      case hy7z1 => (refine Or.inl ⟨by rfl, ?_⟩; intro w hSw; (try dsimp only at hSw); go_simp; try with_reducible rfl)
      try simp only [Act.put, List.setIfInBounds_toArray, List.set_cons_zero, List.set_cons_succ]
      refine wpAnyH_take (i := 8) (oi := ?o8z1) (v := ?v8z1) ?hi8z1 (by kernel_rfl) (by kernel_rfl) ?hr8z1 ?hQ8z1 ?hy8z1 hHeld ?r8z1
      case hi8z1 => (simp only [List.getElem?_toArray, List.getElem?_cons_zero, List.getElem?_cons_succ]; rfl)
      case hr8z1 => kernel_rfl
      case hQ8z1 => exact fun _ _ _ h => h
      case hy8z1 => (refine Or.inl ⟨by rfl, ?_⟩; intro w hSw; (try dsimp only at hSw); go_simp; try with_reducible rfl)
      try simp only [Act.put, List.setIfInBounds_toArray, List.set_cons_zero, List.set_cons_succ]
      refine wpAnyH_ready (rs := [5]) (by kernel_rfl) (by simp) (AllReadyH.cons (o := ?o5z1) ?hi5z1 (fun K hK => ?r5z1) AllReadyH.nil)
      case hi5z1 => (simp only [List.getElem?_toArray, List.getElem?_cons_zero, List.getElem?_cons_succ]; rfl)
      go_simp
      refine WT.mono ?_
      rintro e v4 ⟨gw, rfl, o4, b4⟩
      have r4 := (b4.block _ (heap_in HRD.out)).trans HRD.out
      have s4 := cells7b r4
      have WW := HWR.out v4 b4 gw o4
      clear WT
      refine hK.out _ _ (by exact s4) (fun hHeld => ?_)
      clear hK K
      try simp only [Act.put, List.setIfInBounds_toArray, List.set_cons_zero, List.set_cons_succ]
      refine wpAnyH_ready (rs := [9]) (by kernel_rfl) (by simp) (AllReadyH.cons (o := ?o9z1) ?hi9z1 (fun K hK => ?r9z1) AllReadyH.nil)
      case hi9z1 => (simp only [List.getElem?_toArray, List.getElem?_cons_zero, List.getElem?_cons_succ]; rfl)
      go_simp
      refine WW.mono ?_
      rintro e v5 ⟨rfl, S5, i5, k5, h5⟩
      have r5 := (k5.block _ (heap_in r4) HNS.out).trans r4
      have s5 := cells7b r5
      have B4 := hid b4; have I5 := hid i5; have K5 := hid k5; have H5 := hid h5; have R5 := hid r5
      clear WW i5 k5 h5 r4 r5 o4 b4
      refine hK.out _ _ (by exact s5) (fun hHeld => ?_)
      clear hK K
      try simp only [Act.put, List.setIfInBounds_toArray, List.set_cons_zero, List.set_cons_succ]
      refine wpAnyH_take (i := 10) (oi := ?o10z1) (v := ?v10z1) ?hi10z1 (by kernel_rfl) (by kernel_rfl) ?hr10z1 ?hQ10z1 ?hy10z1 hHeld ?r10z1
      case hi10z1 => (simp only [List.getElem?_toArray, List.getElem?_cons_zero, List.getElem?_cons_succ]; rfl)
      case hr10z1 => kernel_rfl
      case hQ10z1 => exact fun _ _ _ h => h
      case hy10z1 => (refine Or.inl ⟨by rfl, ?_⟩; intro w hSw; (try dsimp only at hSw); go_simp; try with_reducible rfl)
      try simp only [Act.put, List.setIfInBounds_toArray, List.set_cons_zero, List.set_cons_succ]
      refine wpAnyH_done (by kernel_rfl) ?_ _
      clear s4 s5 sX
      have hk5 : Kpt S w v5 := (HKD.out.trans (Kpt.of_below B4.out)).trans K5.out
      have hs5 : ∀ b, S5 b → S b ∨ w.heap.size ≤ b := fun b hb => (H5.out b hb).imp id (fun h => by have := B4.out.size; have := HKD.out.size; omega)
      have HK5 := hid hk5; have HS5 := hid hs5
      clear hk5 hs5
      cases hsp : d.tick.spent with
      | true => as_aux_lemma =>
        have hi := I5.out
        rw [hsp] at hi
        simp only [if_true] at hi ⊢
        have hr := HR.out
        rw [hsp, if_pos rfl] at hr
        have HI := hid hi; have HR2 := hid hr
        clear hi hsp hr HR
        go_wp2
        go_ret
        rw [HR2.out]
        exact ⟨rfl, S5, HI.out, HK5.out, HS5.out⟩
      | false => as_aux_lemma =>
        have hi := I5.out
        rw [hsp] at hi
        simp only [Bool.false_eq_true, if_false] at hi ⊢
        have hr := HR.out
        rw [hsp, if_neg (by decide)] at hr
        have HI := hid hi; have HR2 := hid hr
        clear hi hsp hr HR
        go_wp2
        go_ret
        rw [HR2.out]
        exact ⟨rfl, S5, HI.out, HK5.out, HS5.out⟩
  · have hb : (E != 0) = true := by simpa using hE0
    rw [if_neg hE0] at hfp
    have HI := hid hi2; have HK := hid hkw; have HR := hid hfp
    clear hfp hi2 hkw hrow2 hk2 ho2 hN2 hlen y0 y1 y2 y3 y4 y5 y6 hE0
    go_wp2
    go_ret
    rw [HR.out]
    exact ⟨rfl, S, HI.out, HK.out, fun b hb => .inl hb⟩
end Go.Proofs.Ytahlhdhljjpeoaa

/- Extents in memory; Right of both sides. -/
namespace Go.Proofs.Ytahlhdhljjpeoaa
open Go.RowKit
set_option maxHeartbeats 800000
set_option linter.unusedVariables false
set_option linter.unusedSimpArgs false

/-- An extent. -/
structure Ext where
  at_ : Int
  st : Int
  ct : Int
deriving DecidableEq
def Ext.ok (x : Ext) : Prop := (-9223372036854775808 ≤ x.at_ ∧ x.at_ ≤ 9223372036854775807) ∧ (-9223372036854775808 ≤ x.st ∧ x.st ≤ 9223372036854775807) ∧ (-9223372036854775808 ≤ x.ct ∧ x.ct ≤ 9223372036854775807)
def Ext.cells (x : Ext) : List Value := [.int .i64 x.at_, .int .i64 x.st, .int .i64 x.ct]
def Ext.val (x : Ext) : Value := .agg #[.int .i64 x.at_, .int .i64 x.st, .int .i64 x.ct]
def extCells : List Ext → List Value
  | [] => []
  | x :: l => x.cells ++ extCells l
/-- Is an extent wrong, behind so many blocks? -/
def Ext.bad (e : Int) (x : Ext) : Bool := decide (x.ct < 1 ∨ x.at_ < e ∨ x.st < 1 ∨ 512 < x.ct ∨ 512 - x.ct < x.at_ ∨ 512 - x.ct < x.st)

theorem wrong_any (B : Nat) (w : World) (x : Ext) (e : Int) (hx : x.ok) (hc : w.heap[B]? = some (.cells #[.int .i64 e] 3 (0, 0))) :
    Calls Try.prog 90 #[x.val, .pointer (some ⟨B, 0, none⟩)] w fun r w' => r = .returned (.bool (x.bad e)) ∧ ∃ e', (x.bad e = false → e' = x.at_ + x.ct) ∧ w'.heap[B]? = some (.cells #[.int .i64 e'] 3 (0, 0)) ∧ Below B w w' := by
  have hcell := cell_of_one hc
  have hfree := free_of_one hc
  have hB : B < w.heap.size := World.block_lt_of_cell? w _ hcell
  have hcA : ∀ o, (w.alloc o).cell? ⟨B, 0, none⟩ = some (.int .i64 e) := fun o => cell_below ((Below.refl _ w).alloc (Nat.le_refl _) o) hcell
  have hfA : ∀ o, (w.alloc o).frozen? ⟨B, 0, none⟩ = false := fun o => free_of_one ((heap_alloc_old w o hB).trans hc)
  obtain ⟨a, s, c⟩ := x
  simp only [Ext.val, Ext.ok] at *
  go_enter Try.func90, Try.ntmps90
  go_wp2_with fail
  all_goals
    go_ret
    refine ⟨?_, _, fun h => ?_, (heap_alloc_old _ _ (by simpa using hB)).trans (one_setCell hc), ((Below.refl B w).setCell (Nat.le_refl _) _).alloc (by simp; omega) _⟩
    · first
      | (simp [Ext.bad]; done)
      | (simp [Ext.bad]; omega)
      | simp [Ext.bad, Bool.or_assoc]
    · simp [Ext.bad] at h
      first
      | rfl
      | exact IntWalk.wrap64_in _ (by omega)
      | omega

/-! Extents that are read. -/
def RdX (w : World) (a : Option Addr) (l : List Ext) : Prop := RdV w a (extCells l)
theorem extCells_length (l : List Ext) : (extCells l).length = 3 * l.length := by
  induction l with
  | nil => rfl
  | cons x l ih => simp [extCells, Ext.cells, ih]; omega
theorem extCells_append (l m : List Ext) : extCells (l ++ m) = extCells l ++ extCells m := by
  induction l with
  | nil => rfl
  | cons x l ih => simp [extCells, ih]
theorem extCells_at (l : List Ext) (k j : Nat) (hk : k < l.length) (hj : j < 3) : (extCells l)[3 * k + j]? = l[k].cells[j]? := by
  induction l generalizing k with
  | nil => simp at hk
  | cons x l ih =>
    cases k with
    | zero => simp only [extCells, Nat.mul_zero, Nat.zero_add, List.getElem_cons_zero]; exact List.getElem?_append_left (by simp [Ext.cells]; omega)
    | succ k =>
      simp only [extCells, List.getElem_cons_succ]
      rw [List.getElem?_append_right (by simp [Ext.cells]; omega), ← ih k (by simpa using hk)]
      congr 1
      simp [Ext.cells]; omega
/-- An extent's place. -/
def xat (l : List Ext) (k : Nat) : Ext := l.getD k ⟨0, 0, 0⟩
theorem RdX.at_ {w : World} {a : Option Addr} {l : List Ext} (h : RdX w a l) (hn : l ≠ []) :
    ∃ b off, a = some ⟨b, off, none⟩ ∧ ∀ j, j < l.length → w.cell? ⟨b, off + j * 3, none⟩ = some (.int .i64 (xat l j).at_) ∧ w.cell? ⟨b, off + j * 3 + 1, none⟩ = some (.int .i64 (xat l j).st) ∧ w.cell? ⟨b, off + j * 3 + 2, none⟩ = some (.int .i64 (xat l j).ct) := by
  obtain ⟨b, off, rfl, hc⟩ := h (fun e => hn (by have := extCells_length l; rw [e] at this; simp at this; exact List.eq_nil_of_length_eq_zero (by omega)))
  refine ⟨b, off, rfl, fun j hj => ?_⟩
  have hx : xat l j = l[j] := by simp [xat, List.getD_eq_getElem?_getD, List.getElem?_eq_getElem hj]
  rw [hx]
  have k0 := hc (3 * j + 0) _ (extCells_at l j 0 hj (by omega))
  have k1 := hc (3 * j + 1) _ (extCells_at l j 1 hj (by omega))
  have k2 := hc (3 * j + 2) _ (extCells_at l j 2 hj (by omega))
  rw [show off + j * 3 = off + (3 * j + 0) by omega, show off + (3 * j + 0) + 1 = off + (3 * j + 1) by omega, show off + (3 * j + 0) + 2 = off + (3 * j + 2) by omega]
  exact ⟨k0, k1, k2⟩
theorem RdX.nil (w : World) (a : Option Addr) : RdX w a [] := RdV.nil w a
theorem RdX.below {w w' : World} {a : Option Addr} {l : List Ext} (h : RdX w a l) (hb : Below w.heap.size w w') : RdX w' a l := RdV.below h hb
/-- All in the range of an int. -/
def okX (l : List Ext) : Prop := ∀ k, k < l.length → (xat l k).ok

/-- How far the extents reach, so far; is one wrong? -/
def badTo (l : List Ext) : Nat → Bool
  | 0 => false
  | k + 1 => badTo l k || (xat l k).bad (if k = 0 then 0 else (xat l (k - 1)).at_ + (xat l (k - 1)).ct)
def rightX (l : List Ext) : Bool := !badTo l l.length
theorem badTo_mono (l : List Ext) (k m : Nat) (h : badTo l k = true) (hm : k ≤ m) : badTo l m = true := by
  induction m with
  | zero => obtain rfl : k = 0 := by omega
            exact h
  | succ m ih =>
    by_cases e : k = m + 1
    · subst e; exact h
    · simp only [badTo, ih (by omega), Bool.true_or]

/-- How far they reach, behind k of them. -/
def endTo (l : List Ext) (k : Nat) : Int := if k = 0 then 0 else (xat l (k - 1)).at_ + (xat l (k - 1)).ct
theorem badTo_succ (l : List Ext) (k : Nat) : badTo l (k + 1) = (badTo l k || (xat l k).bad (endTo l k)) := rfl
theorem IndexFunc_any (w0 w : World) (hb0 : Below w0.heap.size w0 w) (hc : w.heap[w0.heap.size]? = some (.cells #[.int .i64 0] 3 (0, 0))) (a : Option Addr) (c N : Nat) (l : List Ext) (hN : N = l.length) (hl : l.length ≤ 200000000000000) (hr : RdX w0 a l) (ho : okX l) :
    Calls Try.prog 48 #[.slice a N c, .func (.func 90) #[] #[.pointer (some ⟨w0.heap.size, 0, none⟩)]] w fun e w' => (∃ n : Int, e = .returned (.int .i64 n) ∧ decide (0 ≤ n) = badTo l l.length) ∧ Below w0.heap.size w0 w' := by
  subst hN
  go_enter Try.func48, Try.ntmps48
  go_wp2_with fail
  go_loopw [8] (fun i wr => ∃ k : Nat, k ≤ l.length ∧ i = .int .i64 k ∧ badTo l k = false ∧ wr.heap[w0.heap.size]? = some (.cells #[.int .i64 (endTo l k)] 3 (0, 0)) ∧ Below w0.heap.size w0 wr) (fun i _ => l.length - (intOf i).toNat)
  case atStart => exact ⟨0, by omega, rfl, rfl, hc, hb0⟩
  case round =>
    obtain ⟨k, hk, rfl, hbad, hce, hbl⟩ := hrel
    by_cases hlt : k < l.length
    · obtain ⟨b, off, rfl, hcs⟩ := (hr.below hbl).at_ (by intro e; simp [e] at hlt)
      obtain ⟨k0, k1, k2⟩ := hcs k hlt
      clear hcs
      have HX := ho k hlt
      have HB := badTo_succ l k
      have HE : endTo l (k + 1) = (xat l k).at_ + (xat l k).ct := by simp [endTo]
      have HB := hid HB; have HE := hid HE; have HC := hid hce
      go_wp2_with fail
      refine (wrong_any _ _ (xat l k) _ HX HC.out).mono ?_
      rintro e w1 ⟨rfl, e', he, hc1, b1⟩
      have hbl1 := hbl.trans b1
      have HC1 := hid hc1; clear hc1
      by_cases hb : (xat l k).bad (endTo l k) = true
      · rw [hb]
        have hall := badTo_mono l (k + 1) l.length (by rw [HB.out, hb, Bool.or_true]) (by omega)
        go_wp2
        go_ret
        exact ⟨⟨(k : Int), rfl, by rw [hall]; simp⟩, hbl1⟩
      · have hb := eq_false_of_ne_true hb
        rw [hb]
        have he := hid (he hb)
        go_wp2
        go_roundw
        case rel => exact ⟨k + 1, by omega, by go_num, by rw [HB.out, hbad, hb]; rfl, by rw [HE.out, ← he.out]; exact HC1.out, hbl1⟩
        case measure => simp [intOf]; omega
    · obtain rfl : k = l.length := by omega
      go_wp2
      go_ret
      exact ⟨⟨-1, rfl, by rw [hbad]; rfl⟩, hbl⟩
theorem ContainsFunc_any (w0 w : World) (hb0 : Below w0.heap.size w0 w) (hc : w.heap[w0.heap.size]? = some (.cells #[.int .i64 0] 3 (0, 0))) (a : Option Addr) (c N : Nat) (l : List Ext) (hN : N = l.length) (hl : l.length ≤ 200000000000000) (hr : RdX w0 a l) (ho : okX l) :
    Calls Try.prog 79 #[.slice a N c, .func (.func 90) #[] #[.pointer (some ⟨w0.heap.size, 0, none⟩)]] w fun e w' => e = .returned (.bool (badTo l l.length)) ∧ Below w0.heap.size w0 w' := by
  subst hN
  go_enter Try.func79, Try.ntmps79
  go_wp2_with fail
  refine (IndexFunc_any w0 w hb0 hc a c _ l rfl hl hr ho).mono ?_
  rintro e w1 ⟨⟨n, rfl, hn⟩, b1⟩
  go_wp2_with fail
  go_ret
  exact ⟨by rw [← hn]; rfl, b1⟩
theorem Right_any (w : World) (a : Option Addr) (c N : Nat) (l : List Ext) (hN : N = l.length) (hl : l.length ≤ 200000000000000) (hr : RdX w a l) (ho : okX l) :
    Calls Try.prog 47 #[.slice a N c] w fun e w' => e = .returned (.bool (rightX l)) ∧ Below w.heap.size w w' := by
  subst hN
  have hmf : ∀ (fn : Fn) (first cap : Array Value) (w : World), (Instr.makeFunc fn first cap).run Try.prog w = .ok (.func fn first cap) w := fun _ _ _ _ => rfl
  go_enter Try.func47, Try.ntmps47
  go_wp2_with fail
  refine (ContainsFunc_any w _ ((Below.refl _ _).alloc (Nat.le_refl _) _) (heap_alloc_new w _) a c _ l rfl hl hr ho).mono ?_
  rintro e w1 ⟨rfl, b1⟩
  go_wp2
  go_ret
  exact ⟨rfl, b1⟩
end Go.Proofs.Ytahlhdhljjpeoaa

/- The document's Right. -/
namespace Go.Proofs.Ytahlhdhljjpeoaa
open Go.RowKit
set_option maxHeartbeats 1600000
set_option linter.unusedVariables false
set_option linter.unusedSimpArgs false

theorem endTo_nonneg (l : List Ext) : ∀ k, badTo l k = false → 0 ≤ endTo l k
  | 0, _ => by simp [endTo]
  | k + 1, h => by
    rw [badTo_succ, Bool.or_eq_false_iff] at h
    have h1 := endTo_nonneg l k h.1
    have h2 := h.2
    simp [Ext.bad] at h2
    have : endTo l (k + 1) = (xat l k).at_ + (xat l k).ct := by simp [endTo]
    omega
theorem RdX.cells {w : World} {b off : Nat} {l : List Ext} (h : RdX w (some ⟨b, off, none⟩) l) (k : Nat) (hk : k < l.length) :
    w.cell? ⟨b, off + k * 3, none⟩ = some (.int .i64 (xat l k).at_) ∧ w.cell? ⟨b, off + k * 3 + 1, none⟩ = some (.int .i64 (xat l k).st) ∧ w.cell? ⟨b, off + k * 3 + 2, none⟩ = some (.int .i64 (xat l k).ct) := by
  obtain ⟨b', off', h', hc⟩ := h.at_ (by intro e; simp [e] at hk)
  simp only [Option.some.injEq, Addr.mk.injEq, and_true] at h'
  obtain ⟨rfl, rfl⟩ := h'
  exact hc k hk
theorem below_new (w : World) (o : Obj) : Below w.heap.size w (w.drew.alloc o) := ⟨rfl, rfl, rfl, by simp, fun k hk => heap_alloc_old w.drew o hk⟩
theorem below_over {w w' : World} (h : Below w.heap.size w w') (o : Obj) : Below w.heap.size w (w'.drew.alloc o) := h.trans ((below_new w' o).mono h.size)
theorem below_dn {w w' : World} (h : Below w.heap.size w w') (o : Obj) (q : Nat) : Below w.heap.size w ((w'.alloc o).drewN q) := h.trans (⟨rfl, rfl, rfl, by simp, fun k hk => heap_alloc_old w' o (Nat.lt_of_lt_of_le hk h.size)⟩)
set_option maxRecDepth 100000 in
theorem refRight_any (w : World) (a : Option Addr) (c N : Nat) (l : List Ext) (hN : N = l.length) (hl : l.length ≤ 200000000000000) (hr : RdX w a l) (ho : okX l) :
    Calls Try.prog 83 #[.slice a N c] w fun e w' => e = .returned (.bool (rightX l)) ∧ Below w.heap.size w w' := by
  subst hN
  go_enter Try.func83, Try.ntmps83
  go_wp2_with fail
  go_loopw [3] (fun i wr => ∃ k : Nat, k ≤ l.length ∧ i = .int .i64 k ∧ badTo l k = false ∧ Below w.heap.size w wr) (fun i _ => l.length - (intOf i).toNat)
  case atStart => exact ⟨0, by omega, rfl, rfl, Below.refl _ _⟩
  case round =>
    obtain ⟨k, hk, rfl, hbad, hbl⟩ := hrel
    by_cases hlt : k < l.length
    · have hrk := hr.below hbl
      obtain ⟨b, off, rfl, hcs⟩ := hrk.at_ (by intro e; simp [e] at hlt)
      obtain ⟨k0, k1, k2⟩ := hcs k hlt
      have HX := ho k hlt
      have HB := hid (badTo_succ l k)
      have hend := hid (endTo_nonneg l k hbad)
      generalize hx : xat l k = x at *
      obtain ⟨xa, xs, xc⟩ := x
      have HX' := HX
      simp only [Ext.ok] at HX'
      obtain ⟨⟨x1, x2⟩, ⟨x3, x4⟩, x5, x6⟩ := HX'
      by_cases hfirst : xc < 1 ∨ 512 < xc ∨ xa < 0 ∨ 512 < xa ∨ xs < 1 ∨ 512 < xs
      · have hall := hid (badTo_mono l (k + 1) l.length (by
          rw [HB.out, hbad, Bool.false_or]
          have := hend.out
          simp [Ext.bad]; omega) (by omega))
        have HF := hid hfirst; clear hfirst
        go_wp2_with fail
        all_goals first
          | (exfalso; have := HF.out; omega)
          | (go_ret; exact ⟨by rw [rightX, hall.out]; rfl, (hbl.alloc hbl.size _)⟩)
      · have f1 : 1 ≤ xc := by omega
        have f2 : xc ≤ 512 := by omega
        have f3 : 0 ≤ xa := by omega
        have f4 : xa ≤ 512 := by omega
        have f5 : 1 ≤ xs := by omega
        have f6 : xs ≤ 512 := by omega
        clear hfirst
        go_wp2_with fail
        have s1 : IntKind.i64.wrap (xa + xc) = xa + xc := by rw [IntKind.wrap_i64]; omega
        have s2 : IntKind.i64.wrap (xs + xc) = xs + xc := by rw [IntKind.wrap_i64]; omega
        by_cases g1 : 512 < xa + xc
        · have hall := hid (badTo_mono l (k + 1) l.length (by
            rw [HB.out, hbad, Bool.false_or]
            have := hend.out
            simp [Ext.bad]; omega) (by omega))
          go_quiet (fail)
          go_wp2
          go_ret
          exact ⟨by rw [rightX, hall.out]; rfl, below_dn hbl _ _⟩
        · have g1 : xa + xc ≤ 512 := by omega
          by_cases g2 : 512 < xs + xc
          · have hall := hid (badTo_mono l (k + 1) l.length (by
              rw [HB.out, hbad, Bool.false_or]
              have := hend.out
              simp [Ext.bad]; omega) (by omega))
            go_quiet (fail)
            go_wp2
            go_ret
            exact ⟨by rw [rightX, hall.out]; rfl, below_dn hbl _ _⟩
          · have g2 : xs + xc ≤ 512 := by omega
            by_cases hk0 : k = 0
            · subst hk0
              have hnext := hid (show badTo l 1 = false by
                rw [HB.out, hbad, Bool.false_or]
                simp [Ext.bad, endTo]; omega)
              go_quiet (fail)
              go_wp2
              go_roundw
              case rel => exact ⟨1, by omega, by go_num, hnext.out, below_dn hbl _ _⟩
              case measure => simp [intOf]; omega
            · have hk0 : 0 < k := by omega
              obtain ⟨j, ya, ys, yc, hj1, p0, p2, s3, HNX, HNY⟩ : ∃ (j : Nat) (ya ys yc : Int), IntKind.i64.wrap ((k : Int) - 1) = (j : Int) ∧ wr.cell? ⟨b, off + j * 3, none⟩ = some (.int .i64 ya) ∧ wr.cell? ⟨b, off + j * 3 + 2, none⟩ = some (.int .i64 yc) ∧ IntKind.i64.wrap (ya + yc) = ya + yc ∧
                  Hid ((0 ≤ (j : Int) ∧ (j : Int) < l.length) ∧ (xa < ya + yc → badTo l l.length = true)) ∧ Hid (ya + yc ≤ xa → badTo l (k + 1) = false) := by
                obtain ⟨j, hj⟩ : ∃ j, k = j + 1 := ⟨k - 1, by omega⟩
                obtain ⟨p0, p1, p2⟩ := RdX.cells hrk j (by omega)
                have hbj := badTo_succ l j
                rw [← hj, hbad] at hbj
                have hbj1 := (Bool.or_eq_false_iff.mp hbj.symm).1
                have hbj2 := (Bool.or_eq_false_iff.mp hbj.symm).2
                have hek : endTo l k = (xat l j).at_ + (xat l j).ct := by rw [hj]; simp [endTo]
                have HEJ := endTo_nonneg l j hbj1
                simp [Ext.bad] at hbj2
                refine ⟨j, _, (xat l j).st, _, ?_, p0, p2, ?_, ⟨⟨by omega, by omega⟩, fun g3 => ?_⟩, fun g3 => ?_⟩
                · rw [IntKind.wrap_i64]; omega
                · rw [IntKind.wrap_i64]; omega
                · refine badTo_mono l (k + 1) l.length ?_ (by omega)
                  rw [HB.out, hbad, Bool.false_or, hek]
                  simp [Ext.bad]; omega
                · rw [HB.out, hbad, Bool.false_or, hek]
                  simp [Ext.bad]; omega
              have p0A : ∀ o, (wr.alloc o).cell? ⟨b, off + j * 3, none⟩ = some (.int .i64 ya) := fun o => cell_below ((Below.refl _ wr).alloc (Nat.le_refl _) o) p0
              have p2A : ∀ o, (wr.alloc o).cell? ⟨b, off + j * 3 + 2, none⟩ = some (.int .i64 yc) := fun o => cell_below ((Below.refl _ wr).alloc (Nat.le_refl _) o) p2
              have j1 : (0 : Int) ≤ (j : Int) := HNX.out.1.1
              have j2 : (j : Int) < (l.length : Int) := HNX.out.1.2
              by_cases g3 : xa < ya + yc
              · go_quiet (fail)
                go_wp2
                go_ret
                exact ⟨by rw [rightX, HNX.out.2 g3]; rfl, below_dn hbl _ _⟩
              · have g3 : ya + yc ≤ xa := by omega
                go_quiet (fail)
                go_wp2
                go_roundw
                case rel => exact ⟨k + 1, by omega, by go_num, HNY.out g3, below_dn hbl _ _⟩
                case measure => simp [intOf]; omega
    · obtain rfl : k = l.length := by omega
      go_wp2
      go_ret
      exact ⟨by rw [rightX, hbad]; rfl, hbl⟩
end Go.Proofs.Ytahlhdhljjpeoaa

/- The superblock: the document's PutSuper, and GetSuper of both sides. -/
namespace Go.Proofs.Ytahlhdhljjpeoaa
open Go.RowKit
theorem below_drew (w : World) : Below w.heap.size w w.drew := ⟨rfl, rfl, rfl, Nat.le_refl _, fun _ _ => rfl⟩
set_option maxHeartbeats 800000
set_option linter.unusedVariables false
set_option linter.unusedSimpArgs false

def lenOfV : Value → Nat
  | .slice _ n _ => n
  | _ => 0
theorem zeros_succ (k : Nat) : zeros (k + 1) = zeros k ++ [0] := by simp [zeros, List.replicate_succ']
theorem radd_any (w : World) (a : Option Addr) (c N : Nat) (l : List UInt8) (hN : N = l.length) (v n : Nat) (x y : Int) (hx : x = (v : Int)) (hy : y = (n : Int)) (hl : l.length ≤ 199999999999000) (hr : RdB w a l) (hn : n ≤ 8) (hv : v < 9223372036854775808) :
    Calls Try.prog 106 #[.slice a N c, .int .i64 x, .int .i64 y] w fun e w' =>
      ∃ A c', e = .returned (.slice A (N + n) c') ∧ OwnB w.heap.size w' A c' (l ++ be v n) ∧ Below w.heap.size w w' := by
  subst hN hx hy
  have HV := hid (show v < 18446744073709551616 by omega)
  go_enter Try.func106, Try.ntmps106
  go_wp2_with fail
  refine (refAdd_any _ _ _ _ l rfl v n _ rfl hl hr hn HV.out).mono ?_
  rintro e w1 ⟨A1, c1, rfl, h1, b1⟩
  go_wp2
  go_ret
  exact ⟨A1, c1, rfl, h1, b1⟩
theorem conv_const_drew (w : World) (C : Array Value) (n c : Nat) (g : Nat) (hg : g = w.heap.size) : (convert 61 61 (.slice (some ⟨g, 0, none⟩) n c)).run Try.prog (w.alloc (.cells C 5)).drew = .ok (.slice (some ⟨g, 0, none⟩) n c) (w.alloc (.cells C 5 (C.size, C.size + 1))).drew := conv_const w.drew C n c g hg
theorem RdB.markedd (w : World) (cs : Array Value) (t : TypeId) (p : Nat × Nat) (l : List UInt8) (h : cs.toList = B8s l) {g : Nat} (hg : g = w.heap.size) : RdB (w.alloc (.cells cs t p)).drew (some ⟨g, 0, none⟩) l := RdB.marked w cs t p l h hg
theorem radd8_any (w : World) (a : Option Addr) (c N : Nat) (l : List UInt8) (v : Nat) (hN : l.length = N) (hl : N ≤ 1000) (hr : RdB w a l) (hv : v < 9223372036854775808) :
    Calls Try.prog 106 #[.slice a N c, .int .i64 (v : Int), .int .i64 8] w fun e w' =>
      ∃ A c', e = .returned (.slice A (N + 8) c') ∧ OwnB w.heap.size w' A c' (l ++ be v 8) ∧ Below w.heap.size w w' :=
  radd_any w a c N l hN.symm v 8 _ _ rfl rfl (by omega) hr (by decide) hv
theorem keep4 {v W : World} {g : Nat} {a b c d : Value} (h : v.cell? ⟨g, 0, none⟩ = some a ∧ v.cell? ⟨g, 1, none⟩ = some b ∧ v.cell? ⟨g, 2, none⟩ = some c ∧ v.cell? ⟨g, 3, none⟩ = some d) (bl : Below v.heap.size v W) :
    W.cell? ⟨g, 0, none⟩ = some a ∧ W.cell? ⟨g, 1, none⟩ = some b ∧ W.cell? ⟨g, 2, none⟩ = some c ∧ W.cell? ⟨g, 3, none⟩ = some d := ⟨cell_below bl h.1, cell_below bl h.2.1, cell_below bl h.2.2.1, cell_below bl h.2.2.2⟩
end Go.Proofs.Ytahlhdhljjpeoaa
