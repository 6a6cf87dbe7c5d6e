/- Texts joined: BtD, BtE, BtF. -/
import Derived.Test.YtahlhdhljjpeoaaGBitsErrors4
import Derived.Test.YtahlhdhljjpeoaaGBitsErrors5
/- bits.Used (printed by gen24b.py). -/
namespace Go.Proofs.Ytahlhdhljjpeoaa
open Go.RowKit
variable {Q : Nat → Prop}
set_option maxHeartbeats 1500000
set_option maxRecDepth 100000
set_option linter.unusedVariables false
set_option linter.unusedSimpArgs false

theorem own_adrP {base c : Nat} {w : World} {a : Option Addr} {l : List UInt8} (h : OwnB base w a c l) (hn : l ≠ []) : ∃ g, a = some ⟨g, 0, none⟩ ∧ base ≤ g ∧ g < w.heap.size := by
  obtain ⟨g, rfl, hb, _⟩ := h.at_ hn
  exact ⟨g, rfl, hb, h.lt.2⟩
theorem own_sl1 {w : World} {base n size : Nat} {e : TypeId} {v : Value} {xs : List Value} (h : w.ownsRow base e size v n xs) (hn : 0 < n) : ∃ g c, v = .slice (some ⟨g, 0, none⟩) n c ∧ base ≤ g ∧ g < w.heap.size := by
  rcases h.2 with ⟨_, h0⟩ | ⟨g', cap, cur, rfl, hb, hg, r⟩
  · omega
  · exact ⟨g', cap, rfl, hb, heap_in hg⟩
theorem own_rdV {w : World} {base n g c : Nat} {e : TypeId} {xs : List Value} (h : w.ownsRow base e 1 (.slice (some ⟨g, 0, none⟩) n c) n xs) (hl : xs.length = n * 1) : RdV w (some ⟨g, 0, none⟩) xs := by
  refine fun _ => ⟨g, 0, rfl, fun i v hv => ?_⟩
  have hi : i < xs.length := (List.getElem?_eq_some_iff.1 hv).1
  rw [Nat.zero_add, World.ownsRow.cellAt h i (by omega), hv]
theorem info_bo : (Try.prog.info? 4).map (fun i => (i.zero, i.size, i.bytes)) = some (some (.bool false), 1, 1) := by kernel_rfl
/-- The space's block of bits. -/
def bitsB (d : Pl) (l : Lay) : List UInt8 := d.b.getD l.bi.toNat []
def usedD (d : Pl) (l : Lay) : Pl := if rightL l = true then d.tick else d
def usedE (d : Pl) (l : Lay) : Int := if rightL l = true then if d.spent = true then 4 else if goodB (bitsB d l) l.da.toNat l.bl.toNat = true then 0 else 30 else 2
def usedU (d : Pl) (l : Lay) : List Bool := if usedE d l = 0 then usedOf (bitsB d l) l.bl.toNat else []
theorem right_in {l : Lay} (h : rightL l = true) : 0 ≤ l.bi ∧ l.bi < l.bl ∧ 0 ≤ l.da ∧ l.da ≤ l.bl ∧ 64 ≤ l.bl ∧ l.bl ≤ 512 ∧ l.ino + l.ib = l.da ∧ l.ino = l.bi + 1 ∧ 4 ≤ l.ib := by
  unfold rightL at h
  simp only [Bool.and_eq_true, decide_eq_true_eq] at h
  obtain ⟨h1, h2⟩ := h
  have h3 := h1
  unfold okN at h3
  have h4 := of_decide_eq_true h3
  have hb := ringL_bd h4.1 h4.2
  unfold ofL at h2
  rw [if_pos h1] at h2
  obtain ⟨b0, b1, b2, b3, b4, b5, b6⟩ := l
  simp only [Lay.mk.injEq] at h2
  dsimp only at *
  omega
theorem Used_is {base : Nat} (w : World) (P : Nat) {S : Nat → Prop} {d : Pl} (h : IsPl Q base w P S d) (hl : -100000000 ≤ d.left) (l : Lay) (hbl : rightL l = true → l.bl = (d.b.length : Int)) :
    Calls Try.prog 29 #[spV P, l.val] w fun e w' => (∃ A N c, e = .returned (.tuple #[.slice A N c, .int .i64 (usedE d l)]) ∧ N = (usedU d l).length ∧ w'.ownsRow w.heap.size 4 1 (.slice A N c) N (BvL (usedU d l))) ∧ IsPl Q base w' P S (usedD d l) ∧ Kpt S w w' := by
  have WR := fun w => bitsWrong_any w P l
  have hb0 : ∀ o : Obj, Below w.heap.size w (w.alloc o) := fun o => (Below.refl _ _).alloc (Nat.le_refl _) _
  cases hR : rightL l with
  | false =>
    have hE : usedE d l = 2 := by simp [usedE, hR]
    have hD : usedD d l = d := by simp [usedD, hR]
    have hU : usedU d l = [] := by simp [usedU, hE]
    rw [hE, hD, hU]
    have hw : wrgE l = 2 := by simp [wrgE, hR]
    simp only [hw] at WR
    have H := hid h
    clear h hE hD hU hw hR hbl
    obtain ⟨b0, b1, b2, b3, b4, b5, b6⟩ := l
    simp only [Lay.val, spV] at WR ⊢
    go_enter Try.func29, Try.ntmps29
    go_wp2_with fail
    refine (WR _).mono ?_
    rintro e w1 ⟨rfl, b1'⟩
    have hb := (hb0 (.cells #[.int .i64 b0, .int .i64 b1, .int .i64 b2, .int .i64 b3, .int .i64 b4, .int .i64 b5, .int .i64 b6] 39)).trans (b1'.mono (hb0 (.cells #[.int .i64 b0, .int .i64 b1, .int .i64 b2, .int .i64 b3, .int .i64 b4, .int .i64 b5, .int .i64 b6] 39)).size)
    have HB := hid hb
    clear WR b1' hb hb0
    go_wp2
    refine bodyPost_ret (v := .tuple #[.slice none 0 0, .int .i64 2]) (by simp [results, Try.results29, go_sem]) rfl ⟨⟨none, 0, 0, rfl, rfl, World.ownsRow_nil _ _ _ _⟩, H.out.below HB.out, Kpt.of_below HB.out⟩
  | true =>
    have hbl := hbl hR
    have hin := right_in hR
    have hw : wrgE l = 0 := by simp [wrgE, hR]
    simp only [hw] at WR
    have hD : usedD d l = d.tick := by simp [usedD, hR]
    have hEd : usedE d l = if d.spent = true then 4 else if goodB (bitsB d l) l.da.toNat l.bl.toNat = true then 0 else 30 := by simp [usedE, hR]
    have hok := h.ok
    obtain ⟨bi, hbi⟩ : ∃ bi : Nat, l.bi = (bi : Int) := ⟨l.bi.toNat, by omega⟩
    obtain ⟨da, hda⟩ : ∃ da : Nat, l.da = (da : Int) := ⟨l.da.toNat, by omega⟩
    obtain ⟨N, hNl⟩ : ∃ N : Nat, N = d.b.length := ⟨_, rfl⟩
    rw [← hNl] at hbl
    obtain ⟨blk, hblk⟩ : ∃ blk, blk = d.b.getD bi [] := ⟨_, rfl⟩
    have hb4 : blk.length = 4096 := by
      have hm : bi < d.b.length := by omega
      rw [hblk, List.getD_eq_getElem?_getD, List.getElem?_eq_getElem hm]
      exact hok.b4 _ (List.getElem_mem hm)
    have hBB : bitsB d l = blk := by rw [bitsB, hbi, hblk]; rfl
    rw [hBB, hda, hbl, Int.toNat_natCast, Int.toNat_natCast] at hEd
    have hrE : d.rdE (bi : Int) = if d.spent = true then 4 else 0 := by
      unfold Pl.rdE Pl.inB
      rw [if_pos (show decide (0 ≤ (bi : Int) ∧ (bi : Int) < (d.b.length : Int)) = true from decide_eq_true (by omega))]
    have hrB : d.spent = false → d.rdB (bi : Int) = blk := fun hs => by
      unfold Pl.rdB Pl.inB
      rw [hs, if_neg (by decide), if_pos (show decide (0 ≤ (bi : Int) ∧ (bi : Int) < (d.b.length : Int)) = true from decide_eq_true (by omega)), hblk]
      rfl
    have hrB2 : d.spent = true → d.rdB (bi : Int) = [] := fun hs => by unfold Pl.rdB; rw [hs]; rfl
    have hUd : usedU d l = if usedE d l = 0 then usedOf blk N else [] := by rw [usedU, hBB, hbl, Int.toNat_natCast]
    rw [hD]
    have WT := fun (W : World) (A : Option Addr) (c : Nat) (hr : RdV W A (BvL (usedOf blk N))) => written_any W l hR A N c (usedOf blk N) (by rw [usedOf_length]) (by rw [usedOf_length]; omega) hr
    have BT := fun (W : World) (k : Nat) (hk : k < N) => Bit_any W l (k : Int) (by omega)
    have BY : ∀ k : Nat, k < N → bitB l (k : Int) = ((k / 8 : Nat) : Int) ∧ bitV l (k : Int) = 2 ^ (k % 8) ∧ errB l (k : Int) = 0 := by
      intro k hk
      obtain ⟨h1, h2, h3⟩ := bit_yes hR (show bitOk l (k : Int) = true by unfold bitOk; simp; omega)
      refine ⟨by rw [h1]; omega, ?_, h3⟩
      rw [h2, show ((k : Int) % 8).toNat = k % 8 by omega]
    have hN5 : N ≤ 512 := by omega
    have hdaN : da ≤ N := by omega
    have hbiN : bi < N := by omega
    have HED := hid hEd; have HUD := hid hUd; have HRE := hid hrE; have HRB := hid hrB; have HRB2 := hid hrB2; have HB4 := hid hb4; have HBT := hid BT; have HBY := hid BY; have HWT := hid WT
    have H := hid h
    clear hw hD hEd hok hblk hBB hrE hrB hrB2 hUd BT BY WT hb4 hR hin hNl h
    obtain ⟨b0, b1, b2, b3, b4, b5, b6⟩ := l
    simp only [Lay.val, spV] at WR HWT HBT hbl hbi hda ⊢
    subst hbl hbi hda
    obtain ⟨W0, hW0⟩ : ∃ W0, W0 = w.alloc (.cells #[.int .i64 (N : Int), .int .i64 b1, .int .i64 b2, .int .i64 (bi : Int), .int .i64 b4, .int .i64 b5, .int .i64 (da : Int)] 39) := ⟨_, rfl⟩
    have hrow := heap_alloc_new w (.cells #[.int .i64 (N : Int), .int .i64 b1, .int .i64 b2, .int .i64 (bi : Int), .int .i64 b4, .int .i64 b5, .int .i64 (da : Int)] 39)
    have hB0 := hb0 (.cells #[.int .i64 (N : Int), .int .i64 b1, .int .i64 b2, .int .i64 (bi : Int), .int .i64 b4, .int .i64 b5, .int .i64 (da : Int)] 39)
    rw [← hW0] at hrow hB0
    have WR := WR W0
    have HW0 := hid hW0; have HROW := hid hrow; have HB0 := hid hB0
    rw [hW0] at WR
    clear hW0 hrow hB0 hb0
    go_enter Try.func29, Try.ntmps29
    go_wp2_with fail
    refine WR.mono ?_
    rw [← HW0.out]
    rintro e w1 ⟨rfl, b1'⟩
    have hb1 := HB0.out.trans (b1'.mono HB0.out.size)
    have hrow1 := (b1'.block _ (heap_in HROW.out)).trans HROW.out
    obtain ⟨y0, y1, y2, y3, y4, y5, y6⟩ := cells7b hrow1
    have RD := Read_is w1 P (H.out.below hb1) hl (bi : Int) (by omega)
    have HB1 := hid hb1; have HROW1 := hid hrow1
    clear WR b1' hb1 hrow1
    go_wp2_with fail
    refine RD.mono ?_
    rintro e w2 ⟨⟨A2, c2, N2, rfl, hN2, ho2⟩, hi2, hk2⟩
    have hSw : ¬ S w.heap.size := fun hs => by have := (H.out.blocks hs).2.1; omega
    have hrow2 := (hk2.block _ (heap_in HROW1.out) hSw).trans HROW1.out
    have hkw : Kpt S w w2 := (Kpt.of_below HB1.out).trans hk2
    rw [HRE.out]
    cases hs : d.spent with
    | true => as_aux_lemma =>
      have hE := HED.out
      rw [hs] at hE
      simp only [if_true] at hE ⊢
      have hU := HUD.out
      rw [hE, if_neg (by decide)] at hU
      have HE := hid hE; have HU := hid hU; have HI := hid hi2; have HK := hid hkw
      clear hE hU hi2 hkw hrow2 hN2 ho2 hk2 RD y0 y1 y2 y3 y4 y5 y6 hs HED
      go_wp2
      refine bodyPost_ret (v := .tuple #[.slice none 0 0, .int .i64 4]) (by simp [results, Try.results29, go_sem]) rfl ⟨⟨none, 0, 0, by rw [HE.out], by rw [HU.out]; rfl, by rw [HU.out]; exact World.ownsRow_nil _ _ _ _⟩, HI.out, HK.out⟩
    | false => as_aux_lemma =>
      have hE := HED.out
      rw [hs] at hE
      simp only [Bool.false_eq_true, if_false] at hE ⊢
      rw [HRB.out hs, HB4.out] at hN2
      rw [HRB.out hs] at ho2
      subst hN2
      obtain ⟨g, rfl, hg1, hg2⟩ := own_adrP ho2 (by intro e; have := HB4.out; rw [e] at this; simp at this)
      obtain ⟨y0, y1, y2, y3, y4, y5, y6⟩ := cells7b hrow2
      have HE := hid hE; have HI := hid hi2; have HK := hid hkw; have HROW2 := hid hrow2; have HO := hid ho2
      have hsz2 := hkw.size
      clear hE hi2 hkw hrow2 ho2 hk2 RD hs HED
      go_wp2_with fail
      go_loopw [9, 35] (fun vo i wr => ∃ k oa oc, k ≤ N ∧ i = .int .i64 ((k : Nat) : Int) ∧ vo = .slice oa k oc ∧ wr.ownsRow w2.heap.size 4 1 (.slice oa k oc) k (BvL (usedOf blk k)) ∧ Below w2.heap.size w2 wr) (fun _ i _ => N - (intOf i).toNat)
      case atStart => exact ⟨0, none, 0, Nat.zero_le _, rfl, rfl, World.ownsRow_nil _ _ _ _, Below.refl _ _⟩
      case round => as_aux_lemma =>
        clear y0 y1 y2 y3 y4 y5 y6
        obtain ⟨k, oa, oc, hk, rfl, rfl, q1, q3⟩ := hrel
        obtain ⟨y0, y1, y2, y3, y4, y5, y6⟩ := cells7b ((q3.block _ (heap_in HROW2.out)).trans HROW2.out)
        by_cases hlt : k < N
        · have BT := HBT.out wr k hlt
          obtain ⟨e1, e2, e3⟩ := HBY.out k hlt
          rw [e1, e2, e3] at BT
          obtain ⟨p, hp⟩ : ∃ p, p = k / 8 := ⟨_, rfl⟩
          have hp4 : p < 4096 := by omega
          have hpI : (p : Int) < 4096 := by omega
          rw [← hp] at BT
          have hq : 2 ^ (k % 8) < 256 := by
            have : ∀ r, r < 8 → 2 ^ r < 256 := by decide
            exact this _ (by omega)
          have hbt : ((bat blk p).toNat &&& 2 ^ (k % 8) != 0) = bitOf blk k := by
            rw [and_bit _ _ (by omega), hp]
            rfl
          generalize 2 ^ (k % 8) = q at BT hq hbt
          have HS := hid (usedOf_succ blk k)
          have HQ1 := hid q1; have HQ3 := hid q3
          clear e1 e2 e3 q1 q3 hp
          go_wp2_with fail
          refine BT.mono ?_
          rintro e w3 ⟨rfl, b3⟩
          clear BT y0 y1 y2 y3 y4 y5 y6
          have hq3 := HQ3.out.trans (b3.mono HQ3.out.size)
          have hq1 := own_below HQ1.out b3
          obtain ⟨_, e, _, x0, _⟩ := (HO.out.below hq3).at_ (by intro e; have := HB4.out; rw [e] at this; simp at this)
          have e := Option.some.inj e
          simp only [Addr.mk.injEq, and_true] at e
          subst e
          have x1 := x0 p (by rw [HB4.out]; exact hp4)
          have hx := (bat blk p).toNat_lt
          have hand := and8 (bat blk p).toNat q hx hq
          generalize (bat blk p).toNat = X at *
          have hcmp : ((bits .and .u8 (X : Int) (q : Int)) != 0) = bitOf blk k := by
            rw [hand, ← hbt]
            by_cases e : X &&& q = 0
            · rw [e]; rfl
            · have e1 : ((X &&& q : Nat) : Int) ≠ 0 := by omega
              rw [bne_iff_ne.2 e, bne_iff_ne.2 e1]
          obtain ⟨bt, hbe⟩ : ∃ bt, bt = bitOf blk k := ⟨_, rfl⟩
          rw [← hbe] at hcmp
          have HBE := hid hbe
          have ba : Below w3.heap.size w3 (w3.alloc (.cells #[.bool bt] 4)) := (Below.refl _ _).alloc (Nat.le_refl _) _
          have hq15 := own_below hq1 ba
          have hq35 := hq3.trans (ba.mono hq3.size)
          clear x0 hx hand hbt hq3 hq1 ba hbe b3 hp4
          have Q15 := hid hq15; have Q35 := hid hq35
          clear hq15 hq35
          go_wp2_with (with_reducible refine app_own rfl (.tmp 45) (.tmp 53) 42 4 (.bool false) 1 1 rfl Try.underlying42 info_bo rfl (by decide) (by decide) w2.heap.size (.slice oa k oc) k (BvL (usedOf blk k)) rfl Q15.out (some ⟨w3.heap.size, 0, none⟩) 1 1 [.bool bt] rfl rfl RdV.one (by simp [Value.oneCell']) (by omega) w2 Q35.out Q35.out.size ?_; intro A1 c1 w6 h6a h6b h6c h6d)
          go_roundw
          case rel => exact ⟨k + 1, A1, c1, by omega, by go_num, rfl, by rw [HS.out, ← HBE.out]; simpa [BvL] using h6a, h6b⟩
          case measure => simp [intOf]; omega
        · obtain rfl : k = N := by omega
          have hcap := own_cap q1
          obtain ⟨gO, oc', eo, _, _⟩ := own_sl1 q1 (by omega)
          simp only [Value.slice.injEq, true_and] at eo
          obtain ⟨rfl, rfl⟩ := eo
          have hrd : RdV wr (some ⟨gO, 0, none⟩) (BvL (usedOf blk k)) := own_rdV q1 (by rw [BvL_length, usedOf_length, Nat.mul_one])
          have htk : RdV wr (some ⟨gO, 0, none⟩) (BvL ((usedOf blk k).take da)) := by
            intro hn
            obtain ⟨b, off, e, hc⟩ := hrd (by intro e; have := BvL_length (usedOf blk k); rw [e, usedOf_length] at this; simp at this; omega)
            refine ⟨b, off, e, fun j u hu => hc j u ?_⟩
            unfold BvL at hu ⊢
            rw [List.map_take, List.getElem?_take] at hu
            split at hu
            · exact hu
            · cases hu
          have CT := Contains_any wr (some ⟨gO, 0, none⟩) da oc ((usedOf blk k).take da) (by rw [List.length_take, usedOf_length]; omega) (by omega) htk false
          rw [used_no blk k da hdaN] at CT
          have hdI : (da : Int) ≤ (oc : Int) := by have := hcap.1; omega
          have HQ1 := hid q1; have HQ3 := hid q3; have HRD := hid hrd
          have hgd : goodB blk da k = ((List.range da).all (bitOf blk) && (wrB (usedOf blk k) == blk)) := rfl
          have HGD := hid hgd
          clear q1 q3 hrd htk hcap hgd
          cases hA : (List.range da).all (bitOf blk) with
          | false => as_aux_lemma =>
            rw [hA, Bool.not_false] at CT
            have hE := HE.out
            have hg := HGD.out
            rw [hA, Bool.false_and] at hg
            rw [hg, if_neg (by decide)] at hE
            have hU := HUD.out
            rw [hE, if_neg (by decide)] at hU
            have HE2 := hid hE; have HU := hid hU
            clear hA hE hg hU
            go_wp2_with fail
            refine CT.mono ?_
            rintro e w3 ⟨rfl, rfl⟩
            clear CT
            go_wp2
            refine bodyPost_ret (v := .tuple #[.slice none 0 0, .int .i64 30]) (by simp [results, Try.results29, go_sem]) rfl ⟨⟨none, 0, 0, by rw [HE2.out], by rw [HU.out]; rfl, by rw [HU.out]; exact World.ownsRow_nil _ _ _ _⟩, HI.out.below HQ3.out, HK.out.trans (Kpt.of_below HQ3.out)⟩
          | true => as_aux_lemma =>
            rw [hA, Bool.not_true] at CT
            have WT := HWT.out wr (some ⟨gO, 0, none⟩) oc HRD.out
            have HA := hid hA
            clear hA
            go_wp2_with fail
            refine CT.mono ?_
            rintro e w3 ⟨rfl, rfl⟩
            clear CT
            go_wp2_with fail
            refine WT.mono ?_
            rintro e w4 ⟨g', rfl, o4, b4⟩
            clear WT y0 y1 y2 y3 y4 y5 y6
            have EQ := Equal_any w4 (some ⟨g', 0, none⟩) (some ⟨g, 0, none⟩) 4096 c2 4096 4096 (wrB (usedOf blk k)) blk (wrB_length _).symm HB4.out.symm o4.rd ((HO.out.below HQ3.out).below b4).rd
            have hb4' := HQ3.out.trans (b4.mono HQ3.out.size)
            have HB' := hid hb4'; have HQ4 := hid (own_mono (own_below HQ1.out b4) hsz2)
            clear o4 b4 hb4'
            cases hW : (wrB (usedOf blk k) == blk) with
            | false =>
              rw [hW] at EQ
              have hE := HE.out
              have hg := HGD.out
              rw [HA.out, hW] at hg
              rw [hg, if_neg (by decide)] at hE
              have hU := HUD.out
              rw [hE, if_neg (by decide)] at hU
              have HE2 := hid hE; have HU := hid hU
              clear hW hE hg hU
              go_wp2_with fail
              refine EQ.mono ?_
              rintro e w5 ⟨rfl, rfl⟩
              clear EQ
              go_wp2
              refine bodyPost_ret (v := .tuple #[.slice none 0 0, .int .i64 30]) (by simp [results, Try.results29, go_sem]) rfl ⟨⟨none, 0, 0, by rw [HE2.out], by rw [HU.out]; rfl, by rw [HU.out]; exact World.ownsRow_nil _ _ _ _⟩, HI.out.below HB'.out, HK.out.trans (Kpt.of_below HB'.out)⟩
            | true =>
              rw [hW] at EQ
              have hE := HE.out
              have hg := HGD.out
              rw [HA.out, hW] at hg
              rw [hg, if_pos (by decide)] at hE
              have hU := HUD.out
              rw [hE, if_pos rfl] at hU
              have HE2 := hid hE; have HU := hid hU
              clear hW hE hg hU
              go_wp2_with fail
              refine EQ.mono ?_
              rintro e w5 ⟨rfl, rfl⟩
              clear EQ
              go_wp2
              refine bodyPost_ret (v := .tuple #[.slice (some ⟨gO, 0, none⟩) k oc, .int .i64 0]) (by simp [results, Try.results29, go_sem]) rfl ⟨⟨some ⟨gO, 0, none⟩, k, oc, by rw [HE2.out], by rw [HU.out, usedOf_length], by rw [HU.out]; exact HQ4.out⟩, HI.out.below HB'.out, HK.out.trans (Kpt.of_below HB'.out)⟩
end Go.Proofs.Ytahlhdhljjpeoaa

/- bits.where (printed by gen24c.py). -/
namespace Go.Proofs.Ytahlhdhljjpeoaa
open Go.RowKit
variable {Q : Nat → Prop}
set_option maxHeartbeats 1500000
set_option maxRecDepth 100000
set_option linter.unusedVariables false
set_option linter.unusedSimpArgs false

def whE (d : Pl) (l : Lay) (i : Int) : Int := if inoOk l i = true then d.rdE (inoB l i) else 2
def whB (d : Pl) (l : Lay) (i : Int) : List UInt8 := if inoOk l i = true then d.rdB (inoB l i) else []
def whD (d : Pl) (l : Lay) (i : Int) : Pl := if inoOk l i = true then d.tick else d
def WherePost (Q : Nat → Prop) (base : Nat) (w : World) (P : Nat) (S : Nat → Prop) (d : Pl) (l : Lay) (i : Int) (e : Ending) (w' : World) : Prop :=
  (∃ A N c, e = .returned (.tuple #[.int .i64 (inoB l i), .int .i64 (inoA l i), .slice A N c, .int .i64 (whE d l i)]) ∧ N = (whB d l i).length ∧ OwnB w.heap.size w' A c (whB d l i)) ∧ IsPl Q base w' P S (whD d l i) ∧ Kpt S w w'
theorem where_is {base : Nat} (w : World) (P : Nat) {S : Nat → Prop} {d : Pl} (h : IsPl Q base w P S d) (hl : -100000000 ≤ d.left) (l : Lay) (i : Int) (hi : -9223372036854775808 ≤ i ∧ i ≤ 9223372036854775807) :
    Calls Try.prog 63 #[spV P, l.val, .int .i64 i] w (WherePost Q base w P S d l i) := by
  have WR := fun w => bitsWrong_any w P l
  have IN := fun w => Inode_any w l i hi
  cases hok : inoOk l i with
  | false =>
    obtain ⟨n1, n2, n3⟩ := ino_no hok
    have hE : whE d l i = 2 := by simp [whE, hok]
    have hB : whB d l i = [] := by simp [whB, hok]
    have hD : whD d l i = d := by simp [whD, hok]
    unfold WherePost
    rw [hE, hB, hD, n1, n2]
    simp only [n1, n2, n3] at IN
    have H := hid h
    cases hR : rightL l with
    | false =>
      have hw : wrgE l = 2 := by simp [wrgE, hR]
      simp only [hw] at WR
      clear hE hB hD n1 n2 n3 hok hR hw h
      obtain ⟨b0, b1, b2, b3, b4, b5, b6⟩ := l
      simp only [Lay.val, spV] at WR ⊢
      obtain ⟨W0, hW0⟩ : ∃ W0, W0 = w.alloc (.cells #[.int .i64 b0, .int .i64 b1, .int .i64 b2, .int .i64 b3, .int .i64 b4, .int .i64 b5, .int .i64 b6] 39) := ⟨_, rfl⟩
      have hrow := heap_alloc_new w (.cells #[.int .i64 b0, .int .i64 b1, .int .i64 b2, .int .i64 b3, .int .i64 b4, .int .i64 b5, .int .i64 b6] 39)
      have hB0 : Below w.heap.size w (w.alloc (.cells #[.int .i64 b0, .int .i64 b1, .int .i64 b2, .int .i64 b3, .int .i64 b4, .int .i64 b5, .int .i64 b6] 39)) := (Below.refl _ _).alloc (Nat.le_refl _) _
      rw [← hW0] at hrow hB0
      have WR := WR W0
      have HW0 := hid hW0; have HROW := hid hrow; have HB0 := hid hB0
      rw [hW0] at WR
      clear hW0 hrow hB0
      go_enter Try.func63, Try.ntmps63
      go_wp2_with fail
      refine WR.mono ?_
      rw [← HW0.out]
      rintro e w1 ⟨rfl, b1'⟩
      have HB := hid (HB0.out.trans (b1'.mono HB0.out.size))
      clear WR b1'
      go_wp2
      refine bodyPost_ret (v := .tuple #[.int .i64 0, .int .i64 0, .slice none 0 0, .int .i64 2]) (by simp [results, Try.results63, go_sem]) rfl ⟨⟨none, 0, 0, rfl, rfl, OwnB.nil _ _⟩, H.out.below HB.out, Kpt.of_below HB.out⟩
    | true =>
      have hw : wrgE l = 0 := by simp [wrgE, hR]
      simp only [hw] at WR
      clear hE hB hD n1 n2 n3 hok hR hw h
      obtain ⟨b0, b1, b2, b3, b4, b5, b6⟩ := l
      simp only [Lay.val, spV] at WR IN ⊢
      obtain ⟨W0, hW0⟩ : ∃ W0, W0 = w.alloc (.cells #[.int .i64 b0, .int .i64 b1, .int .i64 b2, .int .i64 b3, .int .i64 b4, .int .i64 b5, .int .i64 b6] 39) := ⟨_, rfl⟩
      have hrow := heap_alloc_new w (.cells #[.int .i64 b0, .int .i64 b1, .int .i64 b2, .int .i64 b3, .int .i64 b4, .int .i64 b5, .int .i64 b6] 39)
      have hB0 : Below w.heap.size w (w.alloc (.cells #[.int .i64 b0, .int .i64 b1, .int .i64 b2, .int .i64 b3, .int .i64 b4, .int .i64 b5, .int .i64 b6] 39)) := (Below.refl _ _).alloc (Nat.le_refl _) _
      rw [← hW0] at hrow hB0
      have WR := WR W0
      have HW0 := hid hW0; have HROW := hid hrow; have HB0 := hid hB0
      rw [hW0] at WR
      clear hW0 hrow hB0
      go_enter Try.func63, Try.ntmps63
      go_wp2_with fail
      refine WR.mono ?_
      rw [← HW0.out]
      rintro e w1 ⟨rfl, b1'⟩
      obtain ⟨y0, y1, y2, y3, y4, y5, y6⟩ := cells7b ((b1'.block _ (heap_in HROW.out)).trans HROW.out)
      have HB := hid (HB0.out.trans (b1'.mono HB0.out.size))
      clear WR b1'
      go_wp2_with fail
      refine (IN w1).mono ?_
      rintro e w2 ⟨rfl, b2'⟩
      have HB2 := hid (HB.out.trans (b2'.mono HB.out.size))
      clear IN b2' y0 y1 y2 y3 y4 y5 y6
      go_wp2
      refine bodyPost_ret (v := .tuple #[.int .i64 0, .int .i64 0, .slice none 0 0, .int .i64 2]) (by simp [results, Try.results63, go_sem]) rfl ⟨⟨none, 0, 0, rfl, rfl, OwnB.nil _ _⟩, H.out.below HB2.out, Kpt.of_below HB2.out⟩
  | true =>
    have hR : rightL l = true := by unfold inoOk at hok; simp only [Bool.and_eq_true] at hok; exact hok.1
    have hw : wrgE l = 0 := by simp [wrgE, hR]
    simp only [hw] at WR
    obtain ⟨n1, n2, n3⟩ := ino_yes hok
    have hib := right_in hR
    have hio : 1 ≤ i ∧ i ≤ l.ib * 64 := by unfold inoOk at hok; simp only [Bool.and_eq_true, decide_eq_true_eq] at hok; exact hok.2
    have hE : whE d l i = d.rdE (inoB l i) := by simp [whE, hok]
    have hB : whB d l i = d.rdB (inoB l i) := by simp [whB, hok]
    have hD : whD d l i = d.tick := by simp [whD, hok]
    unfold WherePost
    rw [hE, hB, hD]
    simp only [n3] at IN
    have hr : -9223372036854775808 ≤ inoB l i ∧ inoB l i ≤ 9223372036854775807 := by omega
    have ID := fun (W : World) (hW : IsPl Q base W P S d) => inodes_is W P hW hl (inoB l i) hr
    have H := hid h; have HID := hid ID
    clear hE hB hD n1 n2 n3 hok hR hw hib hio h ID hr
    generalize inoB l i = xb at *
    generalize inoA l i = xa at *
    obtain ⟨b0, b1, b2, b3, b4, b5, b6⟩ := l
    simp only [Lay.val, spV] at WR IN HID ⊢
    obtain ⟨W0, hW0⟩ : ∃ W0, W0 = w.alloc (.cells #[.int .i64 b0, .int .i64 b1, .int .i64 b2, .int .i64 b3, .int .i64 b4, .int .i64 b5, .int .i64 b6] 39) := ⟨_, rfl⟩
    have hrow := heap_alloc_new w (.cells #[.int .i64 b0, .int .i64 b1, .int .i64 b2, .int .i64 b3, .int .i64 b4, .int .i64 b5, .int .i64 b6] 39)
    have hB0 : Below w.heap.size w (w.alloc (.cells #[.int .i64 b0, .int .i64 b1, .int .i64 b2, .int .i64 b3, .int .i64 b4, .int .i64 b5, .int .i64 b6] 39)) := (Below.refl _ _).alloc (Nat.le_refl _) _
    rw [← hW0] at hrow hB0
    have WR := WR W0
    have HW0 := hid hW0; have HROW := hid hrow; have HB0 := hid hB0
    rw [hW0] at WR
    clear hW0 hrow hB0
    go_enter Try.func63, Try.ntmps63
    go_wp2_with fail
    refine WR.mono ?_
    rw [← HW0.out]
    rintro e w1 ⟨rfl, b1'⟩
    obtain ⟨y0, y1, y2, y3, y4, y5, y6⟩ := cells7b ((b1'.block _ (heap_in HROW.out)).trans HROW.out)
    have HB := hid (HB0.out.trans (b1'.mono HB0.out.size))
    clear WR b1'
    go_wp2_with fail
    refine (IN w1).mono ?_
    rintro e w2 ⟨rfl, b2'⟩
    have HB2 := hid (HB.out.trans (b2'.mono HB.out.size))
    have ID := HID.out w2 (H.out.below HB2.out)
    clear IN b2' y0 y1 y2 y3 y4 y5 y6 HID
    go_wp2_with fail
    refine ID.mono ?_
    rintro e w3 ⟨⟨A, c, N, rfl, hN, ho⟩, hi3, hk3⟩
    have HN := hid hN; have HO := hid (ho.mono HB2.out.size); have HI := hid hi3; have HK := hid ((Kpt.of_below HB2.out).trans hk3)
    clear ID hN ho hi3 hk3
    go_wp2
    refine bodyPost_ret (v := .tuple #[.int .i64 xb, .int .i64 xa, .slice A N c, .int .i64 (d.rdE xb)]) (by simp [results, Try.results63, go_sem]) rfl ⟨⟨A, N, c, rfl, HN.out, HO.out⟩, HI.out, HK.out⟩
end Go.Proofs.Ytahlhdhljjpeoaa

/- bits.Empty (printed by gen24d.py). -/
namespace Go.Proofs.Ytahlhdhljjpeoaa
open Go.RowKit
variable {Q : Nat → Prop}
set_option maxHeartbeats 3200000
set_option maxRecDepth 100000
set_option linter.unusedVariables false
set_option linter.unusedSimpArgs false

theorem run_mkBo (n : Nat) (hn : n ≤ 1000000) (W : World) : (Instr.makeSlice 42 (.int .i64 (n : Int)) (.int .i64 (n : Int))).run Try.prog W = .ok (.slice (some ⟨W.heap.size, 0, none⟩) n n) (W.alloc (.cells (madeCells #[.bool false] n) 4)) := by
  obtain ⟨i0, hi, hz0, hz1, hz2⟩ := info_parts info_bo
  have := run_make (P := Try.prog) W 42 4 i0 (.bool false) Try.underlying42 hi hz0 .i64 .i64 (n : Int) (n : Int) (by omega) (by omega) (by rw [hz2]; omega) (by omega)
  rw [this, hz1]
  simp only [Int.toNat_natCast, Nat.mul_one]
  rfl
theorem nilA (P : Nat) (W : World) : (nilAhead 282 37 (.pointer (some ⟨P, 0, none⟩)) "Write").run Try.prog W = .ok (some false) W := by
  first | rfl | kernel_rfl | simp [nilAhead, go_sem]
def QT : Nat → Prop := fun _ => True
/-- So many writes, until one fails. -/
def emRun : Pl → List (Nat × List UInt8) → Pl × Int
  | d, [] => (d, 0)
  | d, x :: xs => if d.spent = true then (d.tick, 4) else emRun (d.tick.put x.1 x.2) xs
theorem Write_is {base : Nat} (w : World) (P : Nat) {S : Nat → Prop} {d : Pl} (h : IsPl QT base w P S d) (hl : -100000000 ≤ d.left) (m : Nat) (hm : m < d.b.length) (a : Option Addr) (c : Nat) (l : List UInt8) (h4 : l.length = 4096) (hr : RdB w a l) (hd : d.did ≤ 1000000) (hPa : ∀ b, a.map (·.block) = some b → b ≠ P) :
    Calls Try.prog 46 #[.pointer (some ⟨P, 0, none⟩), .int .i64 (m : Int), .slice a 4096 c] w fun e w' => e = .returned (.int .i64 (if d.spent = true then 4 else 0)) ∧ TurnP QT base w P S w' (if d.spent = true then d.tick else d.tick.put m l) := by
  cases hs : d.spent with
  | true => exact Write_no w P h hl m a c 4096 hs
  | false => exact Write_yes w P h hl (fun _ _ => trivial) m hm a c l h4 hr hd hs hPa
end Go.Proofs.Ytahlhdhljjpeoaa
