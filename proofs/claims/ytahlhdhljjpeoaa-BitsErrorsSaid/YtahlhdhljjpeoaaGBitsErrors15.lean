/- Texts joined: BtN. -/
import Derived.Test.YtahlhdhljjpeoaaGBitsErrors8
import Derived.Test.YtahlhdhljjpeoaaGBitsErrors11
import Derived.Test.YtahlhdhljjpeoaaGBitsErrors14
/- bits.Alloc (printed by gen24i.py). -/
namespace Go.Proofs.Ytahlhdhljjpeoaa
open Go.RowKit
set_option maxHeartbeats 3200000
set_option maxRecDepth 100000
set_option linter.unusedVariables false
set_option linter.unusedSimpArgs false

theorem Free_is {base : Nat} (w : World) (P : Nat) {S : Nat → Prop} {d : Pl} (h : IsPl QT base w P S d) (hl : -10000000 ≤ d.left) (hd : d.did ≤ 100000) (l : Lay) (hbl : rightL l = true → l.bl = (d.b.length : Int)) (st ct : Int) (hst : -9223372036854775808 ≤ st ∧ st ≤ 9223372036854775807) (hct : -9223372036854775808 ≤ ct ∧ ct ≤ 9223372036854775807) :
    Calls Try.prog 20 #[spV P, l.val, .int .i64 st, .int .i64 ct] w fun e w' => e = .returned (.int .i64 (freP d l st ct).2) ∧ TurnP QT base w P S w' (freP d l st ct).1 := by
  cases hR : rightL l with
  | false =>
    have e : freP d l st ct = (d, 2) := by simp [freP, hR]
    rw [e]
    exact Free_wrong w P h l hR st ct
  | true =>
    cases hf : frOk l st ct with
    | false =>
      have e : freP d l st ct = (d, 2) := by simp [freP, hR, hf]
      rw [e]
      exact Free_no w P h l hR st ct hst hct hf
    | true => exact Free_yes w P h hl hd l (hbl hR) hR st ct hf
/-- What is found, as extents. -/
def exX (h : Nat × Nat) : Ext := ⟨0, (h.1 : Int), (h.2 : Int)⟩
def exL (l : List (Nat × Nat)) : List Ext := l.map exX
def alOk (l : Lay) (n : Int) : Bool := decide (1 ≤ n ∧ n ≤ l.bl)
/-- What Alloc does: the space then, what is found, the error. -/
def alcP (d : Pl) (l : Lay) (n : Int) : Pl × List (Nat × Nat) × Int :=
  if rightL l = true then if alOk l n = true then if usedE d l = 0 then
    match allocGo n.toNat (usedU d l) n.toNat [] with
    | none => (d.tick, [], 230)
    | some r => if d.tick.spent = true then (d.tick.tick, [], 4) else (d.tick.tick.put l.bi.toNat (wrB r.1), r.2, 0)
    else (d.tick, [], usedE d l) else (d, [], 2) else (d, [], 2)
def AllocPost (base : Nat) (w : World) (P : Nat) (S : Nat → Prop) (r : Pl × List (Nat × Nat) × Int) (e : Ending) (w' : World) : Prop :=
  (∃ A N c, e = .returned (.tuple #[.slice A N c, .int .i64 r.2.2]) ∧ N = r.2.1.length ∧ OwnX w.heap.size w' A c (exL r.2.1)) ∧ TurnP QT base w P S w' r.1
theorem exL_length (l : List (Nat × Nat)) : (exL l).length = l.length := by simp [exL]
theorem OwnX.kptA {S : Nat → Prop} {base c : Nat} {w w' : World} {a : Option Addr} {l : List Ext} (h : OwnX base w a c l) (k : Kpt S w w') (hs : ∀ b, S b → b < base) : OwnX base w' a c l :=
  own_kpt h k (fun b hb hS => by have := hs b hS; have := own_base h b hb; omega)
theorem OwnX.nilA (base : Nat) (w : World) : OwnX base w none 0 (exL []) := OwnX.nil base w
/-- append on extents, with what it leaves. -/
theorem app_ext3 {ops : Array Oper} {rest : List Oper} {o : Oper} {a : Act} {Q : Exit → Act → World → Prop} {W : World} (hgd : o.guard = none) (s x : Operand)
    (ho : o.op = .call { callee := .builtin .append, args := #[s, x], argTypes := #[22, 22] })
    (base : Nat) (A0 : Option Addr) (c0 n0 : Nat) (l : List Ext) (hn0 : n0 = l.length) (hs : a.eval s = .slice A0 n0 c0) (HO : OwnX base W A0 c0 l)
    (A : Option Addr) (m c : Nat) (r : List Ext) (hx : a.eval x = .slice A m c) (hl : m = r.length) (HR : RdX W A r)
    (n1 : Nat) (hn1 : n1 = l.length + r.length) (hbytes : l.length + r.length ≤ 7000000000000) (hbase : base ≤ W.heap.size)
    (h : ∀ A1 c1 w1, OwnX base w1 A1 c1 (l ++ r) → Kpt (fun b => (Value.slice A0 l.length c0).ownBlock = some b) W w1 → wpList Try.prog ops Q rest (a.put o.dst (.slice A1 n1 c1)) w1) :
    wpList Try.prog ops Q (o :: rest) a W := by
  subst hl hn0 hn1
  refine app_own hgd s x 22 24 (.agg #[.int .i64 0, .int .i64 0, .int .i64 0]) 3 24 ho Try.underlying22 info_ext rfl (by decide) (by decide) base _ l.length (extCells l) hs HO A r.length c (extCells r) hx (by rw [extCells_length]; omega) HR (extCells_one r) (by omega) W ((Below.refl _ W).mono hbase) hbase ?_
  intro A1 c1 w1 h1 hb h2 h3
  refine h A1 c1 w1 ?_ (Kpt.of_grown h2 (fun j hj => hj))
  unfold OwnX
  rw [List.length_append, extCells_append]
  exact h1
theorem Alloc_wrong {base : Nat} (w : World) (P : Nat) {S : Nat → Prop} {d : Pl} (h : IsPl QT base w P S d) (l : Lay) (hR : rightL l = false) (n : Int) :
    Calls Try.prog 21 #[spV P, l.val, .int .i64 n] w (AllocPost base w P S (d, [], 2)) := by
  unfold AllocPost
  have WR := fun w => bitsWrong_any w P l
  have hw : wrgE l = 2 := by simp [wrgE, hR]
  simp only [hw] at WR
  have H := hid h
  clear h hw hR
  obtain ⟨b0, b1, b2, b3, b4, b5, b6⟩ := l
  simp only [Lay.val, spV] at WR ⊢
  obtain ⟨W0, hW0⟩ : ∃ W0, W0 = w.alloc (.cells #[.int .i64 b0, .int .i64 b1, .int .i64 b2, .int .i64 b3, .int .i64 b4, .int .i64 b5, .int .i64 b6] 39) := ⟨_, rfl⟩
  have hrow := heap_alloc_new w (.cells #[.int .i64 b0, .int .i64 b1, .int .i64 b2, .int .i64 b3, .int .i64 b4, .int .i64 b5, .int .i64 b6] 39)
  have hB0 : Below w.heap.size w (w.alloc (.cells #[.int .i64 b0, .int .i64 b1, .int .i64 b2, .int .i64 b3, .int .i64 b4, .int .i64 b5, .int .i64 b6] 39)) := (Below.refl _ _).alloc (Nat.le_refl _) _
  rw [← hW0] at hrow hB0
  have WR := WR W0
  have HW0 := hid hW0; have HROW := hid hrow; have HB0 := hid hB0
  rw [hW0] at WR
  clear hW0 hrow hB0
  go_enter Try.func21, Try.ntmps21
  go_wp2_with fail
  refine WR.mono ?_
  rw [← HW0.out]
  rintro e w1 ⟨rfl, b1'⟩
  have HB := hid (HB0.out.trans (b1'.mono HB0.out.size))
  clear WR b1'
  go_wp2
  refine bodyPost_ret (v := .tuple #[.slice none 0 0, .int .i64 2]) (by simp [results, Try.results21, go_sem]) rfl ⟨⟨none, 0, 0, rfl, rfl, OwnX.nilA _ _⟩, H.out.still HB.out⟩
theorem Alloc_no {base : Nat} (w : World) (P : Nat) {S : Nat → Prop} {d : Pl} (h : IsPl QT base w P S d) (l : Lay) (hR : rightL l = true) (n : Int) (hf : alOk l n = false) :
    Calls Try.prog 21 #[spV P, l.val, .int .i64 n] w (AllocPost base w P S (d, [], 2)) := by
  unfold AllocPost
  have WR := fun w => bitsWrong_any w P l
  have hw : wrgE l = 0 := by simp [wrgE, hR]
  simp only [hw] at WR
  have H := hid h
  have HF := hid (of_decide_eq_false hf)
  clear h hw hR hf
  obtain ⟨b0, b1, b2, b3, b4, b5, b6⟩ := l
  simp only [Lay.val, spV] at WR HF ⊢
  obtain ⟨W0, hW0⟩ : ∃ W0, W0 = w.alloc (.cells #[.int .i64 b0, .int .i64 b1, .int .i64 b2, .int .i64 b3, .int .i64 b4, .int .i64 b5, .int .i64 b6] 39) := ⟨_, rfl⟩
  have hrow := heap_alloc_new w (.cells #[.int .i64 b0, .int .i64 b1, .int .i64 b2, .int .i64 b3, .int .i64 b4, .int .i64 b5, .int .i64 b6] 39)
  have hB0 : Below w.heap.size w (w.alloc (.cells #[.int .i64 b0, .int .i64 b1, .int .i64 b2, .int .i64 b3, .int .i64 b4, .int .i64 b5, .int .i64 b6] 39)) := (Below.refl _ _).alloc (Nat.le_refl _) _
  rw [← hW0] at hrow hB0
  have WR := WR W0
  have HW0 := hid hW0; have HROW := hid hrow; have HB0 := hid hB0
  rw [hW0] at WR
  clear hW0 hrow hB0
  go_enter Try.func21, Try.ntmps21
  go_wp2_with fail
  refine WR.mono ?_
  rw [← HW0.out]
  rintro e w1 ⟨rfl, b1'⟩
  obtain ⟨y0, y1, y2, y3, y4, y5, y6⟩ := cells7b ((b1'.block _ (heap_in HROW.out)).trans HROW.out)
  have HB := hid (HB0.out.trans (b1'.mono HB0.out.size))
  clear WR b1'
  have hf := HF.out
  by_cases c1 : n < 1
  · clear hf
    go_wp2
    refine bodyPost_ret (v := .tuple #[.slice none 0 0, .int .i64 2]) (by simp [results, Try.results21, go_sem]) rfl ⟨⟨none, 0, 0, rfl, rfl, OwnX.nilA _ _⟩, H.out.still HB.out⟩
  have c2 : b0 < n := by omega
  clear hf
  go_wp2
  refine bodyPost_ret (v := .tuple #[.slice none 0 0, .int .i64 2]) (by simp [results, Try.results21, go_sem]) rfl ⟨⟨none, 0, 0, rfl, rfl, OwnX.nilA _ _⟩, H.out.still HB.out⟩
theorem Alloc_yes {base : Nat} (w : World) (P : Nat) {S : Nat → Prop} {d : Pl} (h : IsPl QT base w P S d) (hl : -10000000 ≤ d.left) (hd : d.did ≤ 100000) (l : Lay) (hbl : l.bl = (d.b.length : Int)) (hR : rightL l = true) (n0 : Int) (hf : alOk l n0 = true) :
    Calls Try.prog 21 #[spV P, l.val, .int .i64 n0] w (AllocPost base w P S (alcP d l n0)) := by
  unfold AllocPost
  have WR := fun w => bitsWrong_any w P l
  have hw : wrgE l = 0 := by simp [wrgE, hR]
  simp only [hw] at WR
  have hin := right_in hR
  have hff := of_decide_eq_true hf
  have hUD : usedD d l = d.tick := by simp [usedD, hR]
  obtain ⟨R, hRe⟩ : ∃ R, R = alcP d l n0 := ⟨_, rfl⟩
  have hFP : R = if usedE d l = 0 then (match allocGo n0.toNat (usedU d l) n0.toNat [] with
    | none => (d.tick, [], 230)
    | some r => if d.tick.spent = true then (d.tick.tick, [], 4) else (d.tick.tick.put l.bi.toNat (wrB r.1), r.2, 0)) else (d.tick, [], usedE d l) := by
    rw [hRe]
    simp only [alcP, hR, hf, if_true]
  rw [← hRe]
  have US := fun (W : World) (hW : IsPl QT base W P S d) => Used_is W P hW (by omega) l (fun _ => hbl)
  rw [hUD] at US
  obtain ⟨N, hN⟩ : ∃ N : Nat, N = d.b.length := ⟨_, rfl⟩
  rw [← hN] at hbl
  obtain ⟨bi, hbi⟩ : ∃ n : Nat, l.bi = (n : Int) := ⟨l.bi.toNat, by omega⟩
  obtain ⟨da, hda⟩ : ∃ n : Nat, l.da = (n : Int) := ⟨l.da.toNat, by omega⟩
  obtain ⟨n, rfl⟩ : ∃ n : Nat, n0 = (n : Int) := ⟨n0.toNat, by omega⟩
  have hbiN : bi < N := by omega
  have hN5 : N ≤ 512 := by omega
  have hN1 : 64 ≤ N := by omega
  have hn1 : 1 ≤ n := by omega
  have hnN : n ≤ N := by omega
  simp only [Int.toNat_natCast, hbi] at hFP
  have hlen : usedE d l = 0 → (usedU d l).length = N := fun e => by
    rw [usedU, if_pos e, usedOf_length, hbl, Int.toNat_natCast]
  have WTf := fun (W : World) (A : Option Addr) (c : Nat) (u : List Bool) (hu : u.length = N) (hr : RdV W A (BvL u)) => written_any W l hR A N c u hu.symm (by rw [hu]; omega) hr
  have HN := hid hN; have HWT := hid WTf; have H := hid h; have HUS := hid US; have HLEN := hid hlen; have HFP := hid hFP
  have htick := hid (tick_b d)
  have htl : d.left - 1 ≤ d.tick.left := by
    unfold Pl.tick
    split
    · exact Int.le_refl _
    · omega
  clear hN WTf h hw hR hin hff hf hFP hUD US hlen hRe
  obtain ⟨b0, b1, b2, b3, b4, b5, b6⟩ := l
  simp only [Lay.val, spV] at WR HWT HUS hbl hbi hda ⊢
  subst hbl hbi hda
  obtain ⟨W0, hW0⟩ : ∃ W0, W0 = w.alloc (.cells #[.int .i64 (N : Int), .int .i64 b1, .int .i64 b2, .int .i64 (bi : Int), .int .i64 b4, .int .i64 b5, .int .i64 (da : Int)] 39) := ⟨_, rfl⟩
  have hrow := heap_alloc_new w (.cells #[.int .i64 (N : Int), .int .i64 b1, .int .i64 b2, .int .i64 (bi : Int), .int .i64 b4, .int .i64 b5, .int .i64 (da : Int)] 39)
  have hB0 : Below w.heap.size w (w.alloc (.cells #[.int .i64 (N : Int), .int .i64 b1, .int .i64 b2, .int .i64 (bi : Int), .int .i64 b4, .int .i64 b5, .int .i64 (da : Int)] 39)) := (Below.refl _ _).alloc (Nat.le_refl _) _
  rw [← hW0] at hrow hB0
  have WR := WR W0
  have HW0 := hid hW0; have HROW := hid hrow; have HB0 := hid hB0
  rw [hW0] at WR
  clear hW0 hrow hB0
  go_enter Try.func21, Try.ntmps21
  go_wp2_with fail
  refine WR.mono ?_
  rw [← HW0.out]
  rintro e w1 ⟨rfl, b1'⟩
  have hb1 := HB0.out.trans (b1'.mono HB0.out.size)
  have hrow1 := (b1'.block _ (heap_in HROW.out)).trans HROW.out
  obtain ⟨y0, y1, y2, y3, y4, y5, y6⟩ := cells7b hrow1
  have US := HUS.out w1 (H.out.below hb1)
  have HB1 := hid hb1; have HROW1 := hid hrow1
  have c1 : ¬ (n : Int) < 1 := by omega
  have c2 : ¬ (N : Int) < (n : Int) := by omega
  clear WR b1' hb1 hrow1 HUS
  go_wp2_with fail
  refine US.mono ?_
  rintro e w2 ⟨⟨A2, N2, cO, rfl, hN2, ho2⟩, hi2, hk2⟩
  clear US c1 c2
  have hSw : ¬ S w.heap.size := fun hs => by have := (H.out.blocks hs).2.1; omega
  have hrow2 := (hk2.block _ (heap_in HROW1.out) hSw).trans HROW1.out
  have hkw : Kpt S w w2 := (Kpt.of_below HB1.out).trans hk2
  obtain ⟨E, hE⟩ : ∃ E, E = usedE d ⟨(N : Int), b1, b2, (bi : Int), b4, b5, (da : Int)⟩ := ⟨_, rfl⟩
  obtain ⟨u0, hu⟩ : ∃ u, u = usedU d ⟨(N : Int), b1, b2, (bi : Int), b4, b5, (da : Int)⟩ := ⟨_, rfl⟩
  have hlen := HLEN.out
  have hfp := HFP.out
  simp only [← hE, ← hu] at hlen ho2 hN2 hfp ⊢
  clear hE hu HLEN HFP
  by_cases hE0 : E = 0
  · subst hE0
    have hlen := hlen rfl
    rw [hlen] at hN2
    have hN2 := hN2.symm
    subst hN2
    obtain ⟨gO, cO', eO, hg1, hg2⟩ := own_sl1 ho2 (by omega)
    simp only [Value.slice.injEq, true_and] at eO
    obtain ⟨rfl, rfl⟩ := eO
    rw [if_pos rfl] at hfp
    have hgw : gO ≠ w.heap.size := by have := HB1.out.size; have := heap_in HROW1.out; omega
    have hgS : ¬ S gO := fun hs => by
      have h1 := ((H.out.below HB1.out).blocks hs).2.1
      omega
    have hnuG : ∀ b, b = gO → ¬ U8 w2 b := by
      rintro b rfl
      obtain ⟨_, _, cs, hc⟩ := own_row ho2 (b := b) rfl
      exact row_not_u8 hc (by decide)
    have hS2 : ∀ b, S b → b < w.heap.size := fun b hb => (H.out.blocks hb).2.1
    have hz12 : w.heap.size < w1.heap.size ∧ w1.heap.size ≤ w2.heap.size := ⟨heap_in HROW1.out, hk2.size⟩
    obtain ⟨R0, hR0⟩ : ∃ R0, R0 = allocGo n u0 n [] := ⟨_, rfl⟩
    rw [← hR0] at hfp
    have HFP := hid hfp; have HI2 := hid hi2; have HK2 := hid hkw; have HROW2 := hid hrow2; have HO2 := hid ho2; have HLEN := hid hlen; have HR0 := hid hR0; have HGW := hid hgw; have HGS := hid hgS; have HNUG := hid hnuG; have HS2 := hid hS2
    clear hfp hi2 hkw hk2 hrow2 ho2 hlen hR0 hgw hgS hnuG hS2 y0 y1 y2 y3 y4 y5 y6
    go_wp2_with fail
    go_loopw [2, 11] (fun vn vo wr => ∃ (f m : Nat) (u : List Bool) (out : List (Nat × Nat)) (oa : Option Addr) (oc : Nat), m ≤ f ∧ out.length + f = n ∧ vn = .int .i64 ((m : Nat) : Int) ∧ vo = .slice oa out.length oc ∧ OwnX w2.heap.size wr oa oc (exL out) ∧
        wr.ownsRow w1.heap.size 4 1 (.slice (some ⟨gO, 0, none⟩) N cO) N (BvL u) ∧ u.length = N ∧ allocGo f u m out = R0 ∧ Kpt (fun b => b = gO) w2 wr) (fun vn _ _ => (intOf vn).toNat)
    case atStart => exact ⟨n, n, u0, [], none, 0, Nat.le_refl _, by simp, rfl, rfl, OwnX.nilA _ _, HO2.out, HLEN.out, HR0.out.symm, Kpt.refl _ _⟩
    case round => as_aux_lemma =>
      obtain ⟨f, m, u, out, oa, oc, hmf, hof, rfl, rfl, hox, hub, hul, hgo, hkk⟩ := hrel
      have hzr := hkk.size
      by_cases hm : m = 0
      · as_aux_lemma =>
        subst hm
        rw [allocGo_zero] at hgo
        have hfp := HFP.out
        rw [← hgo] at hfp
        simp only at hfp
        have hrow3 := (hkk.block _ (heap_in HROW2.out) (fun e => HGW.out e.symm)).trans HROW2.out
        have hi3 := HI2.out.kpt hkk HNUG.out (fun b hb e => HGS.out (e ▸ hb))
        have hkw3 : Kpt S w wr := HK2.out.upP hkk (fun b hb => .inr (by omega))
        have hbD0 : Kpt S w wr.drew := hkw3.trans (Kpt.of_below (below_dr wr))
        have hrD : wr.drew.heap[w.heap.size]? = some (.cells #[.int .i64 (N : Int), .int .i64 b1, .int .i64 b2, .int .i64 (bi : Int), .int .i64 b4, .int .i64 b5, .int .i64 (da : Int)] 39 (0, 0)) := hrow3
        have WT := HWT.out wr.drew (some ⟨gO, 0, none⟩) cO u hul ((own_rdV hub (by rw [BvL_length, hul, Nat.mul_one])).kept (below_dr wr))
        have sX := cells7b hrD
        have hiD := hi3.below (below_dr wr)
        have hNS : ¬ S w.heap.size := hSw
        have WRf : ∀ (v4 : World), Below wr.drew.heap.size wr.drew v4 → ∀ g, OwnB wr.drew.heap.size v4 (some ⟨g, 0, none⟩) 4096 (wrB u) → Calls Try.prog 46 #[.pointer (some ⟨P, 0, none⟩), .int .i64 (bi : Int), .slice (some ⟨g, 0, none⟩) 4096 4096] v4 fun e w' => e = .returned (.int .i64 (if d.tick.spent = true then 4 else 0)) ∧ TurnP QT base v4 P S w' (if d.tick.spent = true then d.tick.tick else d.tick.tick.put bi (wrB u)) := by
          intro v4 b4 g o4
          refine Write_is v4 P (hiD.below b4) (by omega) bi (by rw [htick.out.1, ← HN.out]; exact hbiN) (some ⟨g, 0, none⟩) 4096 _ (wrB_length _) o4.rd (by rw [htick.out.2.2]; omega) (fun b hb e => by
            have h1 := o4.lt.1
            have h2 := hiD.lt
            simp only [Option.map_some, Option.some.injEq] at hb
            omega)
        have hna := fun W => nilA P W
        have hoxD := hox.below (below_dr wr)
        have HR := hid hfp; have HWR := hid WRf; have HRD := hid hrD; have HNS := hid hNS; have HKD := hid hbD0; have HOX := hid hoxD
        clear hox hub hul hgo hkk hrow3 hi3 hkw3 hiD hNS WRf hbD0 hrD hoxD hfp
        go_wp2_with fail
        refine wp_region_held_drew (S := fun W1 => W1.cell? ⟨w.heap.size, 0, none⟩ = some (.int .i64 (N : Int)) ∧ W1.cell? ⟨w.heap.size, 1, none⟩ = some (.int .i64 b1) ∧ W1.cell? ⟨w.heap.size, 2, none⟩ = some (.int .i64 b2) ∧ W1.cell? ⟨w.heap.size, 3, none⟩ = some (.int .i64 (bi : Int)) ∧ W1.cell? ⟨w.heap.size, 4, none⟩ = some (.int .i64 b4) ∧ W1.cell? ⟨w.heap.size, 5, none⟩ = some (.int .i64 b5) ∧ W1.cell? ⟨w.heap.size, 6, none⟩ = some (.int .i64 (da : Int))) (by kernel_rfl) (by exact sX) (fun hHeld => ?_)
        refine wpAnyH_take (i := 0) (oi := ?o0z1) (v := ?v0z1) ?hi0z1 (by kernel_rfl) (by kernel_rfl) ?hr0z1 ?hQ0z1 ?hy0z1 hHeld ?r0z1
        case hi0z1 => (simp only [List.getElem?_toArray, List.getElem?_cons_zero, List.getElem?_cons_succ]; rfl)
        case hr0z1 => kernel_rfl
        case hQ0z1 => exact fun _ _ _ h => h
        case hy0z1 => (refine Or.inl ⟨by rfl, ?_⟩; intro w hSw; (try dsimp only at hSw); go_simp; try with_reducible rfl)
        try simp only [Act.put, List.setIfInBounds_toArray, List.set_cons_zero, List.set_cons_succ]
        refine wpAnyH_take (i := 1) (oi := ?o1z1) (v := ?v1z1) ?hi1z1 (by kernel_rfl) (by kernel_rfl) ?hr1z1 ?hQ1z1 ?hy1z1 hHeld ?r1z1
        case hi1z1 => (simp only [List.getElem?_toArray, List.getElem?_cons_zero, List.getElem?_cons_succ]; rfl)
        case hr1z1 => kernel_rfl
        case hQ1z1 => exact fun _ _ _ h => h
        case hy1z1 => (refine Or.inl ⟨by rfl, ?_⟩; intro w hSw; (try dsimp only at hSw); go_simp; try with_reducible rfl)
        try simp only [Act.put, List.setIfInBounds_toArray, List.set_cons_zero, List.set_cons_succ]
        refine wpAnyH_take (i := 2) (oi := ?o2z1) (v := ?v2z1) ?hi2z1 (by kernel_rfl) (by kernel_rfl) ?hr2z1 ?hQ2z1 ?hy2z1 hHeld ?r2z1
        case hi2z1 => (simp only [List.getElem?_toArray, List.getElem?_cons_zero, List.getElem?_cons_succ]; rfl)
        case hr2z1 => kernel_rfl
        case hQ2z1 => exact fun _ _ _ h => h
        case hy2z1 => (refine Or.inl ⟨by rfl, ?_⟩; intro w hSw; (try dsimp only at hSw); go_simp; try with_reducible rfl)
        try simp only [Act.put, List.setIfInBounds_toArray, List.set_cons_zero, List.set_cons_succ]
        refine wpAnyH_take (i := 3) (oi := ?o3z1) (v := ?v3z1) ?hi3z1 (by kernel_rfl) (by kernel_rfl) ?hr3z1 ?hQ3z1 ?hy3z1 hHeld ?r3z1
        case hi3z1 => (simp only [List.getElem?_toArray, List.getElem?_cons_zero, List.getElem?_cons_succ]; rfl)
        case hr3z1 => kernel_rfl
        case hQ3z1 => exact fun _ _ _ h => h
        case hy3z1 => (refine Or.inl ⟨by rfl, ?_⟩; intro w hSw; (try dsimp only at hSw); go_simp; try with_reducible rfl)
        try simp only [Act.put, List.setIfInBounds_toArray, List.set_cons_zero, List.set_cons_succ]
        refine wpAnyH_take (i := 4) (oi := ?o4z1) (v := ?v4z1) ?hi4z1 (by kernel_rfl) (by kernel_rfl) ?hr4z1 ?hQ4z1 ?hy4z1 hHeld ?r4z1
        case hi4z1 => (simp only [List.getElem?_toArray, List.getElem?_cons_zero, List.getElem?_cons_succ]; rfl)
        case hr4z1 => kernel_rfl
        case hQ4z1 => exact fun _ _ _ h => h
        case hy4z1 => (refine Or.inl ⟨by rfl, ?_⟩; intro w hSw; (try dsimp only at hSw); go_simp; try with_reducible rfl)
        try simp only [Act.put, List.setIfInBounds_toArray, List.set_cons_zero, List.set_cons_succ]
        refine wpAnyH_take (i := 6) (oi := ?o6z1) (v := ?v6z1) ?hi6z1 (by kernel_rfl) (by kernel_rfl) ?hr6z1 ?hQ6z1 ?hy6z1 hHeld ?r6z1
        case hi6z1 => (simp only [List.getElem?_toArray, List.getElem?_cons_zero, List.getElem?_cons_succ]; rfl)
        case hr6z1 => kernel_rfl
        case hQ6z1 => exact fun _ _ _ h => h
        case hy6z1 => (refine Or.inl ⟨by rfl, ?_⟩; intro w hSw; (try dsimp only at hSw); go_simp; try with_reducible rfl)
        try simp only [Act.put, List.setIfInBounds_toArray, List.set_cons_zero, List.set_cons_succ]
        refine wpAnyH_take (i := 7) (oi := ?o7z1) (v := ?v7z1) ?hi7z1 (by kernel_rfl) (by kernel_rfl) ?hr7z1 ?hQ7z1 ?hy7z1 hHeld ?r7z1
        case hi7z1 => (simp only [List.getElem?_toArray, List.getElem?_cons_zero, List.getElem?_cons_succ]; rfl)
        case hr7z1 => kernel_rfl
        case hQ7z1 => exact fun _ _ _ h => h
        case hy7z1 => (refine Or.inl ⟨by rfl, ?_⟩; intro w hSw; (try dsimp only at hSw); go_simp; try with_reducible rfl)
        try simp only [Act.put, List.setIfInBounds_toArray, List.set_cons_zero, List.set_cons_succ]
        refine wpAnyH_take (i := 8) (oi := ?o8z1) (v := ?v8z1) ?hi8z1 (by kernel_rfl) (by kernel_rfl) ?hr8z1 ?hQ8z1 ?hy8z1 hHeld ?r8z1
        case hi8z1 => (simp only [List.getElem?_toArray, List.getElem?_cons_zero, List.getElem?_cons_succ]; rfl)
        case hr8z1 => kernel_rfl
        case hQ8z1 => exact fun _ _ _ h => h
        case hy8z1 => (refine Or.inl ⟨by rfl, ?_⟩; intro w hSw; (try dsimp only at hSw); go_simp; try with_reducible rfl)
        try simp only [Act.put, List.setIfInBounds_toArray, List.set_cons_zero, List.set_cons_succ]
        refine wpAnyH_ready (rs := [5]) (by kernel_rfl) (by simp) (AllReadyH.cons (o := ?o5z1) ?hi5z1 (fun K hK => ?r5z1) AllReadyH.nil)
        case hi5z1 => (simp only [List.getElem?_toArray, List.getElem?_cons_zero, List.getElem?_cons_succ]; rfl)
        go_simp
        refine WT.mono ?_
        rintro e v4 ⟨gw, rfl, o4, b4⟩
        have r4 := (b4.block _ (heap_in HRD.out)).trans HRD.out
        have s4 := cells7b r4
        have WW := HWR.out v4 b4 gw o4
        clear WT
        refine hK.out _ _ (by exact s4) (fun hHeld => ?_)
        clear hK K
        try simp only [Act.put, List.setIfInBounds_toArray, List.set_cons_zero, List.set_cons_succ]
        refine wpAnyH_ready (rs := [9]) (by kernel_rfl) (by simp) (AllReadyH.cons (o := ?o9z1) ?hi9z1 (fun K hK => ?r9z1) AllReadyH.nil)
        case hi9z1 => (simp only [List.getElem?_toArray, List.getElem?_cons_zero, List.getElem?_cons_succ]; rfl)
        go_simp
        refine WW.mono ?_
        rintro e v5 ⟨rfl, S5, i5, k5, h5⟩
        have r5 := (k5.block _ (heap_in r4) HNS.out).trans r4
        have s5 := cells7b r5
        have B4 := hid b4; have I5 := hid i5; have K5 := hid k5; have H5 := hid h5; have R5 := hid r5
        clear WW i5 k5 h5 r4 r5 o4 b4
        refine hK.out _ _ (by exact s5) (fun hHeld => ?_)
        clear hK K
        try simp only [Act.put, List.setIfInBounds_toArray, List.set_cons_zero, List.set_cons_succ]
        refine wpAnyH_take (i := 10) (oi := ?o10z1) (v := ?v10z1) ?hi10z1 (by kernel_rfl) (by kernel_rfl) ?hr10z1 ?hQ10z1 ?hy10z1 hHeld ?r10z1
        case hi10z1 => (simp only [List.getElem?_toArray, List.getElem?_cons_zero, List.getElem?_cons_succ]; rfl)
        case hr10z1 => kernel_rfl
        case hQ10z1 => exact fun _ _ _ h => h
        case hy10z1 => (refine Or.inl ⟨by rfl, ?_⟩; intro w hSw; (try dsimp only at hSw); go_simp; try with_reducible rfl)
        try simp only [Act.put, List.setIfInBounds_toArray, List.set_cons_zero, List.set_cons_succ]
        refine wpAnyH_done (by kernel_rfl) ?_ _
        clear s4 s5 sX
        have hk5 : Kpt S w v5 := (HKD.out.trans (Kpt.of_below B4.out)).trans K5.out
        have hs5 : ∀ b, S5 b → S b ∨ w.heap.size ≤ b := fun b hb => (H5.out b hb).imp id (fun h => by have := B4.out.size; have := HKD.out.size; omega)
        have hox5 := (HOX.out.below B4.out).kptA K5.out (fun b hb => by have := HS2.out b hb; omega)
        have HK5 := hid hk5; have HS5 := hid hs5; have HOX5 := hid (hox5.mono (show w.heap.size ≤ w2.heap.size by omega))
        clear hk5 hs5 hox5
        cases hsp : d.tick.spent with
        | true => as_aux_lemma =>
          have hi := I5.out
          rw [hsp] at hi
          simp only [if_true] at hi ⊢
          have hr := HR.out
          rw [hsp, if_pos rfl] at hr
          have HI := hid hi; have HR2 := hid hr
          clear hi hsp hr HR
          go_wp2
          refine bodyPost_ret (v := .tuple #[.slice none 0 0, .int .i64 4]) (by simp [results, Try.results21, go_sem]) rfl ?_
          rw [HR2.out]
          exact ⟨⟨none, 0, 0, rfl, rfl, OwnX.nilA _ _⟩, S5, HI.out, HK5.out, HS5.out⟩
        | false => as_aux_lemma =>
          have hi := I5.out
          rw [hsp] at hi
          simp only [Bool.false_eq_true, if_false] at hi ⊢
          have hr := HR.out
          rw [hsp, if_neg (by decide)] at hr
          have HI := hid hi; have HR2 := hid hr
          clear hi hsp hr HR
          go_wp2
          refine bodyPost_ret (v := .tuple #[.slice oa out.length oc, .int .i64 0]) (by simp [results, Try.results21, go_sem]) rfl ?_
          rw [HR2.out]
          exact ⟨⟨oa, out.length, oc, rfl, rfl, HOX5.out⟩, S5, HI.out, HK5.out, HS5.out⟩
      · as_aux_lemma =>
        obtain ⟨f, rfl⟩ : ∃ f', f = f' + 1 := ⟨f - 1, by omega⟩
        unfold allocGo at hgo
        rw [if_neg hm] at hgo
        have hbest := best_is u m (by omega)
        have BE := best_any wr gO 0 N cO u hul.symm (by omega) (own_rdV hub (by rw [BvL_length, hul, Nat.mul_one])) (by have := (own_row hub (b := gO) rfl).2.1; exact this) m (by omega)
        have hgl := (own_row hub (b := gO) rfl).2.1
        have hmI : (0 : Int) < (m : Int) := by omega
        have HBEST := hid hbest; have HGO := hid hgo; have HOX := hid hox; have HUB := hid hub; have HKK := hid hkk
        have HUL := hid hul
        generalize bestP u m = x at *
        obtain ⟨st, ct⟩ := x
        simp only [holeV] at BE HBEST HGO ⊢
        clear hbest hgo hox hub hkk hul
        go_wp2_with fail
        refine BE.mono ?_
        rintro e w3 ⟨rfl, hb3⟩
        clear BE
        have hX := heap_alloc_new w3 (.cells #[.int .i64 0, .int .i64 (st : Int), .int .i64 (ct : Int)] 24)
        have bX : Below w3.heap.size w3 (w3.alloc (.cells #[.int .i64 0, .int .i64 (st : Int), .int .i64 (ct : Int)] 24)) := (Below.refl _ _).alloc (Nat.le_refl _) _
        have bw : Below wr.heap.size wr (w3.alloc (.cells #[.int .i64 0, .int .i64 (st : Int), .int .i64 (ct : Int)] 24)) := hb3.trans (bX.mono hb3.size)
        have hz3 := hb3.size
        by_cases hc : ct = 0
        · as_aux_lemma =>
          subst hc
          have hgo := HGO.out
          rw [if_pos rfl] at hgo
          have hfp := HFP.out
          rw [← hgo] at hfp
          simp only at hfp
          have hi3 := ((HI2.out.kpt HKK.out HNUG.out (fun b hb e => HGS.out (e ▸ hb))).below bw)
          have hkw3 : Kpt S w (w3.alloc (.cells #[.int .i64 0, .int .i64 (st : Int), .int .i64 ((0 : Nat) : Int)] 24)) := (HK2.out.upP HKK.out (fun b hb => .inr (by omega))).trans (Kpt.of_below bw)
          obtain ⟨x0, x1, x2⟩ := cells3b hX
          have HR := hid hfp; have HI3 := hid hi3; have HK3 := hid hkw3
          clear hgo hfp hi3 hkw3 bX bw hX hb3
          go_wp2
          refine bodyPost_ret (v := .tuple #[.slice none 0 0, .int .i64 230]) (by simp [results, Try.results21, go_sem]) rfl ?_
          rw [HR.out]
          exact ⟨⟨none, 0, 0, rfl, rfl, OwnX.nilA _ _⟩, S, HI3.out, HK3.out, fun b hb => .inl hb⟩
        · as_aux_lemma =>
          have hgo := HGO.out
          rw [if_neg hc] at hgo
          have hfa : freeAt u (st, ct) ∧ ct ≤ m := by
            rcases HBEST.out with ⟨h0, _⟩ | ⟨b1, b2, _⟩
            · exact absurd h0 hc
            · exact ⟨b1, b2⟩
          obtain ⟨⟨hct, hrange, _⟩, hcm⟩ := hfa
          dsimp only at hct hrange
          have hul := HUL.out
          have hub := own_below HUB.out bw
          have hox := HOX.out.below bw
          have HX := hid hX; have HUBX := hid hub; have HOXX := hid hox; have HGO2 := hid hgo; have HBW := hid bw; have HKX := hid (HKK.out.trans (Kpt.of_below bw))
          have hcI : ((ct : Int) == 0) = false := by simpa using hc
          obtain ⟨x0, x1, x2⟩ := cells3b hX
          have hgX : gO ≠ w3.heap.size := by omega
          have hzx : (w3.alloc (.cells #[.int .i64 0, .int .i64 (st : Int), .int .i64 (ct : Int)] 24)).heap.size = w3.heap.size + 1 := by simp
          clear hgo hub hox hX bX bw hb3 hul
          go_wp2_with fail
          go_loopw [48] (fun i ws => ∃ k : Nat, k ≤ ct ∧ i = .int .i64 ((k : Nat) : Int) ∧ ws.ownsRow w1.heap.size 4 1 (.slice (some ⟨gO, 0, none⟩) N cO) N (BvL (setU u st k true)) ∧ Kpt (fun b => b = gO) (w3.alloc (.cells #[.int .i64 0, .int .i64 (st : Int), .int .i64 (ct : Int)] 24)) ws) (fun i _ => ct - (intOf i).toNat)
          case atStart => exact ⟨0, Nat.zero_le _, rfl, by rw [setU_zero]; exact HUBX.out, Kpt.refl _ _⟩
          case round => as_aux_lemma =>
            rename World => wq
            obtain ⟨k, hk, rfl, hu5, hk5⟩ := hrel
            have hX5 := (hk5.block _ (heap_in HX.out) (fun e => hgX e.symm)).trans HX.out
            clear x0 x1 x2
            obtain ⟨x0, x1, x2⟩ := cells3b hX5
            by_cases hlt : k < ct
            · as_aux_lemma =>
              have hbl : (BvL (setU u st k true)).length = N := by rw [BvL_length, setU_length, HUL.out]
              have cl := World.ownsRow.cellAt hu5 (st + k) (by rw [HUL.out] at hrange; omega)
              obtain ⟨x, hx⟩ : ∃ x, (BvL (setU u st k true))[st + k]? = some x := ⟨_, List.getElem?_eq_getElem (by rw [hbl]; rw [HUL.out] at hrange; omega)⟩
              rw [hx] at cl
              have fz := World.ownsRow.frozenAt hu5 (st + k)
              have st5 := (World.ownsRow.stored hu5 (st + k) (.bool true)).1
              have e1 : (BvL (setU u st k true)).set (st + k) (.bool true) = BvL (setU u st (k + 1) true) := by
                rw [← setU_succ]
                simp only [BvL, List.map_set]
              rw [e1] at st5
              have hrN := hrange
              rw [HUL.out] at hrN
              have t1 : IntKind.i64.wrap ((st : Int) + (k : Int)) = (st : Int) + (k : Int) := IntWalk.i64_in _ (by omega)
              have t2 : (st : Int) + (k : Int) < (N : Int) := by omega
              have t3 : ((st : Int) + (k : Int)).toNat = st + k := by omega
              have t4 : ¬ (st : Int) + (k : Int) < 0 := by omega
              have ST := hid st5
              have HK := hid (Kpt.setCell hk5 (p := ⟨gO, st + k, none⟩) rfl (.bool true))
              clear st5 e1 hu5 hk5 hX5 hbl hx
              go_wp2_with fail
              go_roundw
              case rel => exact ⟨k + 1, by omega, by go_num, ST.out, HK.out⟩
              case measure => simp [intOf]; omega
            · as_aux_lemma =>
              obtain rfl : k = ct := by omega
              have hzs := hk5.size
              have hox5 := HOXX.out.kptA hk5 (fun b hb => by omega)
              have ba : Below wq.heap.size wq (wq.alloc (.cells #[.int .i64 0, .int .i64 (st : Int), .int .i64 (k : Int)] 24)) := (Below.refl _ _).alloc (Nat.le_refl _) _
              have hoxa := hox5.below ba
              have hua := own_below hu5 ba
              have hka : Kpt (fun b => b = gO) w2 (wq.alloc (.cells #[.int .i64 0, .int .i64 (st : Int), .int .i64 (k : Int)] 24)) := (HKX.out.trans hk5).trans (Kpt.of_below ba)
              have hXa := (ba.block _ (heap_in hX5)).trans hX5
              obtain ⟨z0, z1, z2⟩ := cells3b hXa
              have hrn : RdX (wq.alloc (.cells #[.int .i64 0, .int .i64 (st : Int), .int .i64 (k : Int)] 24)) (some ⟨wq.heap.size, 0, none⟩) [exX (st, k)] := RdX.lit _ _ _ _ (by simp [extCells, Ext.cells, exX]) rfl
              have hgX5 : w2.heap.size ≤ w3.heap.size := by omega
              have HOXA := hid hoxa; have HUA := hid hua; have HKA := hid hka; have HXA := hid hXa; have HRN := hid hrn
              have hob : ∀ b, (Value.slice oa (exL out).length oc).ownBlock = some b → w2.heap.size ≤ b ∧ b < w3.heap.size := fun b hb => ⟨own_base HOX.out b hb, by have := own_lt HOX.out b hb; omega⟩
              have HOB := hid hob
              have hol : out.length ≤ 600 := by omega
              have t1 : IntKind.i64.wrap ((m : Int) - (k : Int)) = (m : Int) - (k : Int) := IntWalk.i64_in _ (by omega)
              clear hu5 hk5 hX5 hox5 ba hoxa hua hka hXa hrn hob
              go_wp2_with (at_builtin; refine app_ext3 rfl (.tmp 58) (.tmp 60) rfl w2.heap.size oa oc out.length (exL out) (exL_length _).symm rfl HOXA.out (some ⟨wq.heap.size, 0, none⟩) 1 1 [exX (st, k)] rfl rfl HRN.out (out.length + 1) (by rw [exL_length]; rfl) (by rw [exL_length]; simp; omega) (by simp; omega) ?_; intro A6 c6 w6 h6a h6b; have hX6 := (h6b.block _ (heap_in HXA.out) (fun e => by have := (HOB.out _ e).2; omega)).trans HXA.out; obtain ⟨z0, z1, z2⟩ := cells3b hX6; have H6A := hid h6a; have H6B := hid h6b; clear h6a h6b hX6)
              have hk6 := HKA.out.upP H6B.out (fun b hb => .inr (HOB.out b hb).1)
              have hu6 := own_kpt HUA.out H6B.out (fun b hb e => by
                have h1 := (HOB.out b e).1
                have h2 : b = gO := by simpa [Value.ownBlock] using hb.symm
                omega)
              have HK6 := hid hk6; have HU6 := hid hu6
              clear hk6 hu6
              go_roundw
              case rel =>
                refine ⟨f, m - k, setU u st k true, out ++ [(st, k)], A6, c6, by omega, by simp; omega, by go_num, by simp, ?_, HU6.out, by rw [setU_length]; exact HUL.out, HGO2.out, HK6.out⟩
                have := H6A.out
                simpa [exL] using this
              case measure => simp [intOf]; omega
  · have hb : (E != 0) = true := by simpa using hE0
    rw [if_neg hE0] at hfp
    have HI := hid hi2; have HK := hid hkw; have HR := hid hfp
    clear hfp hi2 hkw hrow2 hk2 ho2 hN2 hlen y0 y1 y2 y3 y4 y5 y6 hE0
    go_wp2
    refine bodyPost_ret (v := .tuple #[.slice none 0 0, .int .i64 E]) (by simp [results, Try.results21, go_sem]) rfl ?_
    rw [HR.out]
    exact ⟨⟨none, 0, 0, rfl, rfl, OwnX.nilA _ _⟩, S, HI.out, HK.out, fun b hb => .inl hb⟩
end Go.Proofs.Ytahlhdhljjpeoaa
