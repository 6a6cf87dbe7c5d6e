/- ExtentsBlocks (printed by gen25f.py). -/
import Derived.Test.YtahlhdhljjpeoaaLaw25a
import Derived.Test.YtahlhdhljjpeoaaPick
import Derived.Deep.RegionHeld3
namespace Go.Proofs.Ytahlhdhljjpeoaa
open Go.RowKit
set_option maxHeartbeats 3200000
set_option maxRecDepth 100000
set_option linter.unusedVariables false
set_option linter.unusedSimpArgs false

theorem okX_rf {l : List Ext} (h : rightX l = true) : okX l := by
  refine okX_mem.2 (fun x hx => ?_)
  rw [rightX_rf] at h
  have := rf_nums l 0 (Int.le_refl _) h x hx
  unfold Ext.ok
  omega
theorem right_cutA {l : List Ext} (h : rightX l = true) (t : Int) : rightX (cutA t l) = true := by
  rw [rightX_rf] at h ⊢
  exact cutA_rf t l 0 0 h (Int.le_refl _)
theorem right_cutB {l : List Ext} (h : rightX l = true) (t : Int) : rightX (cutB t l) = true := by
  rw [rightX_rf] at h ⊢
  exact cutB_rf t l 0 0 h (Int.le_refl _)
theorem ct_nn {l : List Ext} (h : rightX l = true) : ∀ x ∈ l, (0 : Int) ≤ x.ct := by
  rw [rightX_rf] at h
  exact rf_ct l 0 h
theorem fnR_right {l : List Ext} (h : rightX l = true) (n : Int) : fnR l n = fnd n l := if_pos h
theorem cut_found {l : List Ext} (h : rightX l = true) (t n : Int) :
    fnB (cutA t l) n = (if n < t then fnB l n else false) ∧ fnV (cutA t l) n = (if n < t then fnV l n else 0) ∧ fnB (cutB t l) n = (if t ≤ n then fnB l n else false) ∧ fnV (cutB t l) n = (if t ≤ n then fnV l n else 0) := by
  unfold fnB fnV
  rw [fnR_right h, fnR_right (right_cutA h t), fnR_right (right_cutB h t), cutA_fnd t n l (ct_nn h), cutB_fnd t n l (ct_nn h)]
  refine ⟨?_, ?_, ?_, ?_⟩ <;> split <;> rfl
theorem fnV_none {l : List Ext} {n : Int} (h : fnB l n = false) : fnV l n = 0 := by
  unfold fnB at h
  unfold fnV
  rcases e : fnR l n with _ | v
  · rfl
  · rw [e] at h; cases h
theorem cut_count {l : List Ext} (h : rightX l = true) (t : Int) : cnR (cutA t l) + cnR (cutB t l) = cnR l := by
  unfold cnR
  rw [if_pos h, if_pos (right_cutA h t), if_pos (right_cutB h t)]
  exact cut_cnt t l (ct_nn h)
theorem cnR_bd (l : List Ext) : 0 ≤ cnR l ∧ cnR l ≤ 512 := by
  unfold cnR
  split
  · rename_i h
    rw [rightX_rf] at h
    have h1 := cnt_le l 0 h
    have h2 := endF_le l 0 (by omega) h
    omega
  · omega
theorem add_right {l : List Ext} {x : Ext} (h : addOk x l = true) : rightX (addR x l) = true ∧ cnR (addR x l) = cnR l + x.ct ∧ (1 ≤ x.ct ∧ x.ct ≤ 512) ∧ (0 ≤ x.at_ ∧ x.at_ ≤ 512) ∧ (1 ≤ x.st ∧ x.st ≤ 512) ∧
    ∀ n, (x.at_ ≤ n ∧ n < x.at_ + x.ct → fnB l n = false ∧ fnB (addR x l) n = true ∧ fnV (addR x l) n = x.st + n - x.at_) ∧ (¬ (x.at_ ≤ n ∧ n < x.at_ + x.ct) → fnB (addR x l) n = fnB l n ∧ fnV (addR x l) n = fnV l n) := by
  have e : addR x l = addX x l := if_pos h
  rw [e]
  simp only [addOk, Bool.and_eq_true] at h
  obtain ⟨h1, h2, h3⟩ := h
  rw [rightX_rf] at h3
  obtain ⟨r1, r2, r3⟩ := addX_law h3
  have hr : rightX (addX x l) = true := by rw [rightX_rf]; exact r1
  have hx := rf_nums [x] 0 (Int.le_refl _) (by rw [← rightX_rf]; exact h2) x (by simp)
  refine ⟨hr, ?_, ⟨hx.2.2.1.1, hx.2.2.1.2⟩, hx.1, hx.2.1, fun n => ?_⟩
  · unfold cnR
    rw [if_pos hr, if_pos h1, r2]
  · obtain ⟨q1, q2⟩ := r3 n
    unfold fnB fnV
    rw [fnR_right hr, fnR_right h1, q1]
    constructor
    · intro hc
      rw [q2 hc, if_pos hc]
      exact ⟨rfl, rfl, rfl⟩
    · intro hc
      rw [if_neg hc]
      exact ⟨rfl, rfl⟩
theorem addE_bad {l : List Ext} {x : Ext} (h : rightX l = false) : addE x l = 2 := by
  unfold addE addOk
  rw [h]
  rfl

theorem Blocks_long (w : World) (a : Option Addr) (c N : Nat) (x : Ext) (t0 : Int) (hl : 300 < N) :
    Calls Try.prog 3 #[.slice a N c, x.val, .int .i64 t0] w fun e w' => e = .returned (.bool true) ∧ Below w.heap.size w w' := by
  have AW := awake25_any
  unfold Ext.val
  go_enter Try.func3, Try.ntmps3
  go_wp2_with fail
  refine (AW _).mono ?_
  rintro e w1 ⟨rfl, b1⟩
  go_wp2
  go_ret
  exact ⟨rfl, ((Below.refl _ _).alloc (Nat.le_refl _) _).trans (b1.mono (by simp))⟩
theorem Blocks_bad (w : World) (a : Option Addr) (c N : Nat) (l : List Ext) (hN : N = l.length) (x : Ext) (t0 : Int) (hl : N ≤ 300) (hr : RdX w a l) (ho : okX l) (hx : x.ok) (ht : -9223372036854775808 ≤ t0 ∧ t0 ≤ 9223372036854775807) (hrl : rightX l = false) :
    Calls Try.prog 3 #[.slice a N c, x.val, .int .i64 t0] w fun e w' => e = .returned (.bool true) ∧ Below w.heap.size w w' := by
  have AW := awake25_any
  have PV := fun W => (Pick_val W t0 520 520 rfl ht (by decide) (by decide)).mono (R' := fun e w' => e = .returned (.int .i64 (pickN t0 520 : Int)) ∧ W = w') (fun e w' h => ⟨h.1, h.2.symm⟩)
  have AD := fun W (h : RdX W a l) => Add_any W a c N l x hN (by omega) h ho hx
  have CU := fun W (h : RdX W a l) => Cut_err W a c N l hN (by omega) h ho (pickN t0 520 : Int) (.inl hrl)
  rw [addE_bad hrl] at AD
  have hpn := pickN_lt t0 520 (by decide)
  generalize pickN t0 520 = t at *
  have HN := hid hN
  obtain ⟨xa, xs, xc⟩ := x
  simp only [Ext.val] at *
  have hb : Below w.heap.size w (w.alloc (.cells #[.int .i64 xa, .int .i64 xs, .int .i64 xc] 24)) := (Below.refl _ _).alloc (Nat.le_refl _) _
  have HB := hid hb; have HR := hid (hr.below hb)
  clear hN hrl hr hb
  go_enter Try.func3, Try.ntmps3
  go_wp2_with fail
  refine (AD _ HR.out).mono ?_
  rintro e w1 ⟨A1, c1, rfl, o1, b1⟩
  have bb1 := HB.out.trans (b1.mono HB.out.size)
  have hr1 := HR.out.below b1
  clear AD o1 b1
  go_wp2_with fail
  refine (PV _).mono ?_
  rintro e w2 ⟨rfl, rfl⟩
  go_wp2_with fail
  refine (CU _ hr1).mono ?_
  rintro e w3 ⟨rfl, b3⟩
  have bb3 := bb1.trans (b3.mono bb1.size)
  go_wp2_with fail
  refine (AW _).mono ?_
  rintro e w4 ⟨rfl, b4⟩
  go_wp2
  go_ret
  exact ⟨rfl, bb3.trans (b4.mono bb3.size)⟩

theorem addX_len (x : Ext) (l : List Ext) : (addX x l).length ≤ l.length + 1 := by
  have h1 : ∀ (x : Ext) t, (mergeR x t).length ≤ t.length + 1 := by
    intro x t
    cases t with
    | nil => simp [mergeR]
    | cons y t => simp only [mergeR]; split <;> simp
  have h2 : ∀ (k : List Ext) t, (mergeL k t).length ≤ k.length + t.length := by
    intro k t
    cases t with
    | nil => simp [mergeL]
    | cons y t =>
      simp only [mergeL]
      split
      · simp
      · split
        · simp only [List.length_append, List.length_cons, List.length_dropLast]; omega
        · simp
  unfold addX
  have h3 := h2 (l.take (insI x l)) (mergeR x (l.drop (insI x l)))
  have h4 := h1 x (l.drop (insI x l))
  have h5 : (l.take (insI x l)).length + (l.drop (insI x l)).length = l.length := by rw [← List.length_append, List.take_append_drop]
  omega

theorem Blocks_not (w : World) (a : Option Addr) (c N : Nat) (l : List Ext) (hN : N = l.length) (x : Ext) (t0 : Int) (hl : N ≤ 300) (hr : RdX w a l) (ho : okX l) (hx : x.ok) (ht : -9223372036854775808 ≤ t0 ∧ t0 ≤ 9223372036854775807) (hrl : rightX l = true) (hok : addE x l = 2) :
    Calls Try.prog 3 #[.slice a N c, x.val, .int .i64 t0] w fun e w' => e = .returned (.bool true) ∧ Below w.heap.size w w' := by
  have AW := awake25_any
  have PV := fun W => (Pick_val W t0 520 520 rfl ht (by decide) (by decide)).mono (R' := fun e w' => e = .returned (.int .i64 (pickN t0 520 : Int)) ∧ W = w') (fun e w' h => ⟨h.1, h.2.symm⟩)
  have AD := fun W (h : RdX W a l) => Add_any W a c N l x hN (by omega) h ho hx
  have hpn := pickN_lt t0 520 (by decide)
  generalize pickN t0 520 = t at *
  have CU := fun W (h : RdX W a l) => Cut_ok W a c N l hN (by omega) h ho (t : Int) hrl (by omega) (by omega)
  have lA := cutA_le t l
  have lB := cutB_le t l
  have CA := fun W A c (h : RdX W A (cutA t l)) => Count_any W A c _ (cutA t l) rfl (by omega) h (okX_rf (right_cutA hrl t))
  have CB := fun W A c (h : RdX W A (cutB t l)) => Count_any W A c _ (cutB t l) rfl (by omega) h (okX_rf (right_cutB hrl t))
  have CL := fun W (h : RdX W a l) => Count_any W a c N l hN (by omega) h ho
  have cc := cut_count hrl (t : Int)
  have cb1 := cnR_bd (cutA t l); have cb2 := cnR_bd (cutB t l); have cb3 := cnR_bd l
  have FL := fun W (h : RdX W a l) (n : Nat) => Find_any W a c N l hN (by omega) h ho (n : Int)
  have FA0 := fun W A c (h : RdX W A (cutA t l)) (n : Nat) => Find_any W A c _ (cutA t l) rfl (by omega) h (okX_rf (right_cutA hrl t)) (n : Int)
  have FB0 := fun W A c (h : RdX W A (cutB t l)) (n : Nat) => Find_any W A c _ (cutB t l) rfl (by omega) h (okX_rf (right_cutB hrl t)) (n : Int)
  have HCF := hid (fun n : Nat => cut_found hrl (t : Int) (n : Int))
  rw [hok] at AD
  clear hok
  have HN := hid hN; have HRL := hid hrl; have HCC := hid cc
  obtain ⟨xa, xs, xc⟩ := x
  simp only [Ext.val] at *
  have hb : Below w.heap.size w (w.alloc (.cells #[.int .i64 xa, .int .i64 xs, .int .i64 xc] 24)) := (Below.refl _ _).alloc (Nat.le_refl _) _
  have HB := hid hb; have HR := hid (hr.below hb); have HX0 := hid (heap_alloc_new w (.cells #[.int .i64 xa, .int .i64 xs, .int .i64 xc] 24))
  clear hN hrl hr hb cc ho lA lB
  go_enter Try.func3, Try.ntmps3
  go_wp2_with fail
  refine (AD _ HR.out).mono ?_
  rintro e w1 ⟨A1, c1, rfl, o1, b1⟩
  have bb1 := HB.out.trans (b1.mono HB.out.size)
  have hr1 := HR.out.below b1
  have hm1 := o1.rd
  have hx1 := below_all b1 HX0.out
  clear AD o1 b1 HB HR HX0
  go_wp2_with fail
  refine (PV _).mono ?_
  rintro e w2 ⟨rfl, rfl⟩
  clear PV
  go_wp2_with fail
  refine (CU _ hr1).mono ?_
  rintro e w3 ⟨A3, c3, A4, c4, rfl, o3, b3⟩
  have bb3 := bb1.trans (b3.mono bb1.size)
  have hr3 := hr1.below b3
  have hm3 := hm1.below b3
  have hx3 := below_all b3 hx1
  have ha3 := o3.1.rd
  have hb3 := o3.2.1.rd
  have FA := fun W h n => FA0 W A3 c3 h n
  have FB := fun W h n => FB0 W A4 c4 h n
  clear CU b3 hr1 hm1 hx1 o3 FA0 FB0
  go_wp2_with fail
  refine (CA _ _ _ ha3).mono ?_
  rintro e w4 ⟨rfl, b4⟩
  have bb4 := bb3.trans (b4.mono bb3.size)
  have hr4 := hr3.below b4; have hm4 := hm3.below b4; have hx4 := below_all b4 hx3; have ha4 := ha3.below b4; have hb4 := hb3.below b4
  clear b4 hr3 hm3 hx3 ha3 hb3 CA bb3
  go_wp2_with fail
  refine (CB _ _ _ hb4).mono ?_
  rintro e w5 ⟨rfl, b5⟩
  have bb5 := bb4.trans (b5.mono bb4.size)
  have hr5 := hr4.below b5; have hm5 := hm4.below b5; have hx5 := below_all b5 hx4; have ha5 := ha4.below b5; have hb5 := hb4.below b5
  clear b5 hr4 hm4 hx4 ha4 hb4 CB bb4
  go_wp2_with fail
  refine (CL _ hr5).mono ?_
  rintro e w6 ⟨rfl, b6⟩
  have bb6 := bb5.trans (b6.mono bb5.size)
  have hr6 := hr5.below b6; have hm6 := hm5.below b6; have hx6 := below_all b6 hx5; have ha6 := ha5.below b6; have hb6 := hb5.below b6
  clear b6 hr5 hm5 hx5 ha5 hb5 bb5
  have hcc : (cnR (cutA t l) + cnR (cutB t l) == cnR l) = true := by rw [HCC.out]; simp
  have hcn : (cnR (cutA t l) + cnR (cutB t l) != cnR l) = false := by rw [HCC.out]; simp
  have HXR := hid hx6; have HR6 := hid hr6; have HM6 := hid hm6; have HA6 := hid ha6; have HB6 := hid hb6; have BB6 := hid bb6
  clear hx6 hr6 hm6 ha6 hb6 bb6
  go_wp2_with fail
  go_loopw [12] (fun i wr => ∃ n : Nat, n ≤ 520 ∧ i = .int .i64 n ∧ Below w6.heap.size w6 wr) (fun i _ => 520 - (intOf i).toNat)
  case atStart => exact ⟨0, by omega, rfl, Below.refl _ _⟩
  case round =>
    obtain ⟨n, hn, rfl, hB⟩ := hrel
    obtain ⟨wa, rfl⟩ : ∃ wa, wa = wr := ⟨_, rfl⟩
    have hr0 := HR6.out.below hB
    have hm0 := HM6.out.below hB
    have hra0 := HA6.out.below hB
    have hrb0 := HB6.out.below hB
    have hrm0 := hm0
    clear hcc hcn
    by_cases hn5 : n < 520
    · rcases hth : fnB l n
      · have hth := hth
        have F1 := fun W (h : RdX W a l) => FL W h n
        have F2 := fun W (h : RdX W A3 (cutA t l)) => FA W h n
        have F3 := fun W (h : RdX W A4 (cutB t l)) => FB W h n
        obtain ⟨v1, v2, v3, v4⟩ := HCF.out n
        have e1 : fnB l n = false := hth
        have e2 : fnV l n = 0 := fnV_none e1
        have v1' : fnB (cutA t l) n = false := by rw [v1, e1]; split <;> rfl
        have v3' : fnB (cutB t l) n = false := by rw [v3, e1]; split <;> rfl
        have v2' := fnV_none v1'
        have v4' := fnV_none v3'
        clear v1 v2 v3 v4
        have v1 := v1'; have v2 := v2'; have v3 := v3'; have v4 := v4'
        clear v1' v2' v3' v4'
        rw [e1, e2] at F1
        rw [v1, v2] at F2
        rw [v3, v4] at F3
        clear v1 v2 v3 v4 e1 e2
        go_wp2_with fail
        refine (F1 _ hr0).mono ?_
        rintro e wb ⟨rfl, bq1⟩
        have ra1 := hra0.below bq1
        have rb1 := hrb0.below bq1
        have rm1 := hrm0.below bq1
        have hb1 := hB.trans (bq1.mono hB.size)
        go_wp2_with fail
        refine (F2 _ ra1).mono ?_
        rintro e wc ⟨rfl, bq2⟩
        have rb2 := rb1.below bq2
        have rm2 := rm1.below bq2
        have hb2 := hb1.trans (bq2.mono hb1.size)
        go_wp2_with fail
        refine (F3 _ rb2).mono ?_
        rintro e wd ⟨rfl, bq3⟩
        have rm3 := rm2.below bq3
        have hb3 := hb2.trans (bq3.mono hb2.size)
        clear F1 F2 F3 bq1 bq2 bq3 ra1 rb1 rb2 rm1 rm2 hb1 hb2
        go_wp2_with fail
        exact ⟨⟨n + 1, by omega, by go_num, hb3⟩, by simp [intOf]; omega⟩
      · by_cases hlt : (n : Int) < (t : Int)
        · have hge : ¬ (t : Int) ≤ (n : Int) := by omega
          have F1 := fun W (h : RdX W a l) => FL W h n
          have F2 := fun W (h : RdX W A3 (cutA t l)) => FA W h n
          have F3 := fun W (h : RdX W A4 (cutB t l)) => FB W h n
          obtain ⟨v1, v2, v3, v4⟩ := HCF.out n
          have e1 : fnB l n = true := hth
          obtain ⟨was, hwas⟩ : ∃ was, was = fnV l n := ⟨_, rfl⟩
          have e2 : fnV l n = was := hwas.symm
          rw [e1, if_pos hlt] at v1
          rw [e2, if_pos hlt] at v2
          rw [e1, if_neg hge] at v3
          rw [e2, if_neg hge] at v4
          rw [e1, e2] at F1
          rw [v1, v2] at F2
          rw [v3, v4] at F3
          clear v1 v2 v3 v4 e1 e2 hwas
          go_wp2_with fail
          refine (F1 _ hr0).mono ?_
          rintro e wb ⟨rfl, bq1⟩
          have ra1 := hra0.below bq1
          have rb1 := hrb0.below bq1
          have rm1 := hrm0.below bq1
          have hb1 := hB.trans (bq1.mono hB.size)
          go_wp2_with fail
          refine (F2 _ ra1).mono ?_
          rintro e wc ⟨rfl, bq2⟩
          have rb2 := rb1.below bq2
          have rm2 := rm1.below bq2
          have hb2 := hb1.trans (bq2.mono hb1.size)
          go_wp2_with fail
          refine (F3 _ rb2).mono ?_
          rintro e wd ⟨rfl, bq3⟩
          have rm3 := rm2.below bq3
          have hb3 := hb2.trans (bq3.mono hb2.size)
          clear F1 F2 F3 bq1 bq2 bq3 ra1 rb1 rb2 rm1 rm2 hb1 hb2
          go_wp2_with fail
          exact ⟨⟨n + 1, by omega, by go_num, hb3⟩, by simp [intOf]; omega⟩
        · have hge : (t : Int) ≤ (n : Int) := by omega
          have F1 := fun W (h : RdX W a l) => FL W h n
          have F2 := fun W (h : RdX W A3 (cutA t l)) => FA W h n
          have F3 := fun W (h : RdX W A4 (cutB t l)) => FB W h n
          obtain ⟨v1, v2, v3, v4⟩ := HCF.out n
          have e1 : fnB l n = true := hth
          obtain ⟨was, hwas⟩ : ∃ was, was = fnV l n := ⟨_, rfl⟩
          have e2 : fnV l n = was := hwas.symm
          rw [e1, if_neg hlt] at v1
          rw [e2, if_neg hlt] at v2
          rw [e1, if_pos hge] at v3
          rw [e2, if_pos hge] at v4
          rw [e1, e2] at F1
          rw [v1, v2] at F2
          rw [v3, v4] at F3
          clear v1 v2 v3 v4 e1 e2 hwas
          go_wp2_with fail
          refine (F1 _ hr0).mono ?_
          rintro e wb ⟨rfl, bq1⟩
          have ra1 := hra0.below bq1
          have rb1 := hrb0.below bq1
          have rm1 := hrm0.below bq1
          have hb1 := hB.trans (bq1.mono hB.size)
          go_wp2_with fail
          refine (F2 _ ra1).mono ?_
          rintro e wc ⟨rfl, bq2⟩
          have rb2 := rb1.below bq2
          have rm2 := rm1.below bq2
          have hb2 := hb1.trans (bq2.mono hb1.size)
          go_wp2_with fail
          refine (F3 _ rb2).mono ?_
          rintro e wd ⟨rfl, bq3⟩
          have rm3 := rm2.below bq3
          have hb3 := hb2.trans (bq3.mono hb2.size)
          clear F1 F2 F3 bq1 bq2 bq3 ra1 rb1 rb2 rm1 rm2 hb1 hb2
          go_wp2_with fail
          exact ⟨⟨n + 1, by omega, by go_num, hb3⟩, by simp [intOf]; omega⟩
    · obtain rfl : n = 520 := by omega
      have bbf := BB6.out.trans (hB.mono BB6.out.size)
      have hxf := below_all hB HXR.out
      clear hra0 hrb0 FL FA FB hrm0 hn5
      clear hr0 hm0
      go_wp2_with fail
      refine wp_region_held_drew (S := fun _ => True) (by kernel_rfl) (by trivial) (fun hHeld => ?_)
      refine wpAnyH_take (i := 0) (oi := ?o0) (v := ?v0) ?hi0 (by kernel_rfl) (by kernel_rfl) ?hr0 ?hQ0 ?hy0 hHeld ?r0
      case hi0 => (simp only [List.getElem?_toArray, List.getElem?_cons_zero, List.getElem?_cons_succ]; rfl)
      case hr0 => kernel_rfl
      case hQ0 => exact fun _ _ _ h => h
      case hy0 => (refine Or.inl ⟨by rfl, ?_⟩; intro w hSw; (try dsimp only at hSw); go_simp; try with_reducible rfl)
      try simp only [Act.put, List.setIfInBounds_toArray, List.set_cons_zero, List.set_cons_succ]
      refine wpAnyH_take (i := 1) (oi := ?o1) (v := ?v1) ?hi1 (by kernel_rfl) (by kernel_rfl) ?hr1 ?hQ1 ?hy1 hHeld ?r1
      case hi1 => (simp only [List.getElem?_toArray, List.getElem?_cons_zero, List.getElem?_cons_succ]; rfl)
      case hr1 => kernel_rfl
      case hQ1 => exact fun _ _ _ h => h
      case hy1 => (refine Or.inl ⟨by rfl, ?_⟩; intro w hSw; (try dsimp only at hSw); go_simp; try with_reducible rfl)
      try simp only [Act.put, List.setIfInBounds_toArray, List.set_cons_zero, List.set_cons_succ]
      refine wpAnyH_take (i := 2) (oi := ?o2) (v := ?v2) ?hi2 (by kernel_rfl) (by kernel_rfl) ?hr2 ?hQ2 ?hy2 hHeld ?r2
      case hi2 => (simp only [List.getElem?_toArray, List.getElem?_cons_zero, List.getElem?_cons_succ]; rfl)
      case hr2 => kernel_rfl
      case hQ2 => exact fun _ _ _ h => h
      case hy2 => (refine Or.inl ⟨by rfl, ?_⟩; intro w hSw; (try dsimp only at hSw); go_simp; try with_reducible rfl)
      try simp only [Act.put, List.setIfInBounds_toArray, List.set_cons_zero, List.set_cons_succ]
      refine wpAnyH_take (i := 3) (oi := ?o3) (v := ?v3) ?hi3 (by kernel_rfl) (by kernel_rfl) ?hr3 ?hQ3 ?hy3 hHeld ?r3
      case hi3 => (simp only [List.getElem?_toArray, List.getElem?_cons_zero, List.getElem?_cons_succ]; rfl)
      case hr3 => kernel_rfl
      case hQ3 => exact fun _ _ _ h => h
      case hy3 => (refine Or.inl ⟨by rfl, ?_⟩; intro w hSw; (try dsimp only at hSw); go_simp; try with_reducible rfl)
      try simp only [Act.put, List.setIfInBounds_toArray, List.set_cons_zero, List.set_cons_succ]
      refine wpAnyH_take (i := 4) (oi := ?o4) (v := ?v4) ?hi4 (by kernel_rfl) (by kernel_rfl) ?hr4 ?hQ4 ?hy4 hHeld ?r4
      case hi4 => (simp only [List.getElem?_toArray, List.getElem?_cons_zero, List.getElem?_cons_succ]; rfl)
      case hr4 => kernel_rfl
      case hQ4 => exact fun _ _ _ h => h
      case hy4 => (refine Or.inl ⟨by rfl, ?_⟩; intro w hSw; (try dsimp only at hSw); go_simp; try with_reducible rfl)
      try simp only [Act.put, List.setIfInBounds_toArray, List.set_cons_zero, List.set_cons_succ]
      refine wpAnyH_take (i := 5) (oi := ?o5) (v := ?v5) ?hi5 (by kernel_rfl) (by kernel_rfl) ?hr5 ?hQ5 ?hy5 hHeld ?r5
      case hi5 => (simp only [List.getElem?_toArray, List.getElem?_cons_zero, List.getElem?_cons_succ]; rfl)
      case hr5 => kernel_rfl
      case hQ5 => exact fun _ _ _ h => h
      case hy5 => (refine Or.inl ⟨by rfl, ?_⟩; intro w hSw; (try dsimp only at hSw); go_simp; try with_reducible rfl)
      try simp only [Act.put, List.setIfInBounds_toArray, List.set_cons_zero, List.set_cons_succ]
      refine wpAnyH_take (i := 6) (oi := ?o6) (v := ?v6) ?hi6 (by kernel_rfl) (by kernel_rfl) ?hr6 ?hQ6 ?hy6 hHeld ?r6
      case hi6 => (simp only [List.getElem?_toArray, List.getElem?_cons_zero, List.getElem?_cons_succ]; rfl)
      case hr6 => kernel_rfl
      case hQ6 => exact fun _ _ _ h => h
      case hy6 => (refine Or.inl ⟨by rfl, ?_⟩; intro w hSw; (try dsimp only at hSw); go_simp; try with_reducible rfl)
      try simp only [Act.put, List.setIfInBounds_toArray, List.set_cons_zero, List.set_cons_succ]
      refine wpAnyH_take (i := 7) (oi := ?o7) (v := ?v7) ?hi7 (by kernel_rfl) (by kernel_rfl) ?hr7 ?hQ7 ?hy7 hHeld ?r7
      case hi7 => (simp only [List.getElem?_toArray, List.getElem?_cons_zero, List.getElem?_cons_succ]; rfl)
      case hr7 => kernel_rfl
      case hQ7 => exact fun _ _ _ h => h
      case hy7 => (refine Or.inl ⟨by rfl, ?_⟩; intro w hSw; (try dsimp only at hSw); go_simp; try with_reducible rfl)
      try simp only [Act.put, List.setIfInBounds_toArray, List.set_cons_zero, List.set_cons_succ]
      refine wpAnyH_take (i := 8) (oi := ?o8) (v := ?v8) ?hi8 (by kernel_rfl) (by kernel_rfl) ?hr8 ?hQ8 ?hy8 hHeld ?r8
      case hi8 => (simp only [List.getElem?_toArray, List.getElem?_cons_zero, List.getElem?_cons_succ]; rfl)
      case hr8 => kernel_rfl
      case hQ8 => exact fun _ _ _ h => h
      case hy8 => (refine Or.inl ⟨by rfl, ?_⟩; intro w hSw; (try dsimp only at hSw); go_simp; try with_reducible rfl)
      try simp only [Act.put, List.setIfInBounds_toArray, List.set_cons_zero, List.set_cons_succ]
      refine wpAnyH_take (i := 9) (oi := ?o9) (v := ?v9) ?hi9 (by kernel_rfl) (by kernel_rfl) ?hr9 ?hQ9 ?hy9 hHeld ?r9
      case hi9 => (simp only [List.getElem?_toArray, List.getElem?_cons_zero, List.getElem?_cons_succ]; rfl)
      case hr9 => kernel_rfl
      case hQ9 => exact fun _ _ _ h => h
      case hy9 => (refine Or.inl ⟨by rfl, ?_⟩; intro w hSw; (try dsimp only at hSw); go_simp; try with_reducible rfl)
      try simp only [Act.put, List.setIfInBounds_toArray, List.set_cons_zero, List.set_cons_succ]
      refine wpAnyH_take (i := 10) (oi := ?o10) (v := undef) ?hi10 (by kernel_rfl) (by kernel_rfl) ?hr10 ?hQ10 ?hy10 hHeld ?r10
      case hi10 => (simp only [List.getElem?_toArray, List.getElem?_cons_zero, List.getElem?_cons_succ]; rfl)
      case hr10 => kernel_rfl
      case hQ10 => exact fun _ _ _ h => h
      case hy10 => exact Or.inr ⟨by rfl, rfl⟩
      try simp only [Act.put, List.setIfInBounds_toArray, List.set_cons_zero, List.set_cons_succ]
      refine wpAnyH_take (i := 11) (oi := ?o11) (v := undef) ?hi11 (by kernel_rfl) (by kernel_rfl) ?hr11 ?hQ11 ?hy11 hHeld ?r11
      case hi11 => (simp only [List.getElem?_toArray, List.getElem?_cons_zero, List.getElem?_cons_succ]; rfl)
      case hr11 => kernel_rfl
      case hQ11 => exact fun _ _ _ h => h
      case hy11 => exact Or.inr ⟨by rfl, rfl⟩
      try simp only [Act.put, List.setIfInBounds_toArray, List.set_cons_zero, List.set_cons_succ]
      refine wpAnyH_take (i := 12) (oi := ?o12) (v := undef) ?hi12 (by kernel_rfl) (by kernel_rfl) ?hr12 ?hQ12 ?hy12 hHeld ?r12
      case hi12 => (simp only [List.getElem?_toArray, List.getElem?_cons_zero, List.getElem?_cons_succ]; rfl)
      case hr12 => kernel_rfl
      case hQ12 => exact fun _ _ _ h => h
      case hy12 => exact Or.inr ⟨by rfl, rfl⟩
      try simp only [Act.put, List.setIfInBounds_toArray, List.set_cons_zero, List.set_cons_succ]
      refine wpAnyH_take (i := 13) (oi := ?o13) (v := undef) ?hi13 (by kernel_rfl) (by kernel_rfl) ?hr13 ?hQ13 ?hy13 hHeld ?r13
      case hi13 => (simp only [List.getElem?_toArray, List.getElem?_cons_zero, List.getElem?_cons_succ]; rfl)
      case hr13 => kernel_rfl
      case hQ13 => exact fun _ _ _ h => h
      case hy13 => exact Or.inr ⟨by rfl, rfl⟩
      try simp only [Act.put, List.setIfInBounds_toArray, List.set_cons_zero, List.set_cons_succ]
      refine wpAnyH_take (i := 14) (oi := ?o14) (v := undef) ?hi14 (by kernel_rfl) (by kernel_rfl) ?hr14 ?hQ14 ?hy14 hHeld ?r14
      case hi14 => (simp only [List.getElem?_toArray, List.getElem?_cons_zero, List.getElem?_cons_succ]; rfl)
      case hr14 => kernel_rfl
      case hQ14 => exact fun _ _ _ h => h
      case hy14 => exact Or.inr ⟨by rfl, rfl⟩
      try simp only [Act.put, List.setIfInBounds_toArray, List.set_cons_zero, List.set_cons_succ]
      refine wpAnyH_take (i := 15) (oi := ?o15) (v := undef) ?hi15 (by kernel_rfl) (by kernel_rfl) ?hr15 ?hQ15 ?hy15 hHeld ?r15
      case hi15 => (simp only [List.getElem?_toArray, List.getElem?_cons_zero, List.getElem?_cons_succ]; rfl)
      case hr15 => kernel_rfl
      case hQ15 => exact fun _ _ _ h => h
      case hy15 => exact Or.inr ⟨by rfl, rfl⟩
      try simp only [Act.put, List.setIfInBounds_toArray, List.set_cons_zero, List.set_cons_succ]
      refine wpAnyH_take (i := 16) (oi := ?o16) (v := undef) ?hi16 (by kernel_rfl) (by kernel_rfl) ?hr16 ?hQ16 ?hy16 hHeld ?r16
      case hi16 => (simp only [List.getElem?_toArray, List.getElem?_cons_zero, List.getElem?_cons_succ]; rfl)
      case hr16 => kernel_rfl
      case hQ16 => exact fun _ _ _ h => h
      case hy16 => exact Or.inr ⟨by rfl, rfl⟩
      try simp only [Act.put, List.setIfInBounds_toArray, List.set_cons_zero, List.set_cons_succ]
      refine wpAnyH_take (i := 17) (oi := ?o17) (v := undef) ?hi17 (by kernel_rfl) (by kernel_rfl) ?hr17 ?hQ17 ?hy17 hHeld ?r17
      case hi17 => (simp only [List.getElem?_toArray, List.getElem?_cons_zero, List.getElem?_cons_succ]; rfl)
      case hr17 => kernel_rfl
      case hQ17 => exact fun _ _ _ h => h
      case hy17 => exact Or.inr ⟨by rfl, rfl⟩
      try simp only [Act.put, List.setIfInBounds_toArray, List.set_cons_zero, List.set_cons_succ]
      refine wpAnyH_take (i := 18) (oi := ?o18) (v := ?v18) ?hi18 (by kernel_rfl) (by kernel_rfl) ?hr18 ?hQ18 ?hy18 hHeld ?r18
      case hi18 => (simp only [List.getElem?_toArray, List.getElem?_cons_zero, List.getElem?_cons_succ]; rfl)
      case hr18 => kernel_rfl
      case hQ18 => exact fun _ _ _ h => h
      case hy18 => (refine Or.inl ⟨by rfl, ?_⟩; intro w hSw; (try dsimp only at hSw); go_simp; try with_reducible rfl)
      try simp only [Act.put, List.setIfInBounds_toArray, List.set_cons_zero, List.set_cons_succ]
      refine wpAnyH_take (i := 19) (oi := ?o19) (v := ?v19) ?hi19 (by kernel_rfl) (by kernel_rfl) ?hr19 ?hQ19 ?hy19 hHeld ?r19
      case hi19 => (simp only [List.getElem?_toArray, List.getElem?_cons_zero, List.getElem?_cons_succ]; rfl)
      case hr19 => kernel_rfl
      case hQ19 => exact fun _ _ _ h => h
      case hy19 => (refine Or.inl ⟨by rfl, ?_⟩; intro w hSw; (try dsimp only at hSw); go_simp; try with_reducible rfl)
      try simp only [Act.put, List.setIfInBounds_toArray, List.set_cons_zero, List.set_cons_succ]
      refine wpAnyH_take (i := 20) (oi := ?o20) (v := ?v20) ?hi20 (by kernel_rfl) (by kernel_rfl) ?hr20 ?hQ20 ?hy20 hHeld ?r20
      case hi20 => (simp only [List.getElem?_toArray, List.getElem?_cons_zero, List.getElem?_cons_succ]; rfl)
      case hr20 => kernel_rfl
      case hQ20 => exact fun _ _ _ h => h
      case hy20 => (refine Or.inl ⟨by rfl, ?_⟩; intro w hSw; (try dsimp only at hSw); go_simp; try with_reducible rfl)
      try simp only [Act.put, List.setIfInBounds_toArray, List.set_cons_zero, List.set_cons_succ]
      refine wpAnyH_ready (rs := [21]) (by kernel_rfl) (by simp) (AllReadyH.cons (o := ?o21) ?hi21 (fun K hK => ?r21) AllReadyH.nil)
      case hi21 => (simp only [List.getElem?_toArray, List.getElem?_cons_zero, List.getElem?_cons_succ]; rfl)
      go_simp
      go_at_call 12
      refine (AW _).mono ?_
      rintro e wz ⟨rfl, bz⟩
      have BBZ := hid ((below_drewN2 bbf 1).trans (bz.mono (below_drewN2 bbf 1).size))
      refine hK.out _ _ (by trivial) (fun hHeld => ?_)
      clear hK K
      try simp only [Act.put, List.setIfInBounds_toArray, List.set_cons_zero, List.set_cons_succ]
      refine wpAnyH_take (i := 22) (oi := ?o22) (v := ?v22) ?hi22 (by kernel_rfl) (by kernel_rfl) ?hr22 ?hQ22 ?hy22 hHeld ?r22
      case hi22 => (simp only [List.getElem?_toArray, List.getElem?_cons_zero, List.getElem?_cons_succ]; rfl)
      case hr22 => kernel_rfl
      case hQ22 => exact fun _ _ _ h => h
      case hy22 => (refine Or.inl ⟨by rfl, ?_⟩; intro w hSw; (try dsimp only at hSw); go_simp; try with_reducible rfl)
      try simp only [Act.put, List.setIfInBounds_toArray, List.set_cons_zero, List.set_cons_succ]
      refine wpAnyH_take (i := 23) (oi := ?o23) (v := ?v23) ?hi23 (by kernel_rfl) (by kernel_rfl) ?hr23 ?hQ23 ?hy23 hHeld ?r23
      case hi23 => (simp only [List.getElem?_toArray, List.getElem?_cons_zero, List.getElem?_cons_succ]; rfl)
      case hr23 => kernel_rfl
      case hQ23 => exact fun _ _ _ h => h
      case hy23 => (refine Or.inl ⟨by rfl, ?_⟩; intro w hSw; (try dsimp only at hSw); go_simp; try with_reducible rfl)
      try simp only [Act.put, List.setIfInBounds_toArray, List.set_cons_zero, List.set_cons_succ]
      refine wpAnyH_done (by kernel_rfl) ?_ _
      go_wp2
      go_ret
      exact ⟨rfl, BBZ.out⟩

theorem Blocks_put (w : World) (a : Option Addr) (c N : Nat) (l : List Ext) (hN : N = l.length) (x : Ext) (t0 : Int) (hl : N ≤ 300) (hr : RdX w a l) (ho : okX l) (hx : x.ok) (ht : -9223372036854775808 ≤ t0 ∧ t0 ≤ 9223372036854775807) (hrl : rightX l = true) (hok : addOk x l = true) :
    Calls Try.prog 3 #[.slice a N c, x.val, .int .i64 t0] w fun e w' => e = .returned (.bool true) ∧ Below w.heap.size w w' := by
  have AW := awake25_any
  have PV := fun W => (Pick_val W t0 520 520 rfl ht (by decide) (by decide)).mono (R' := fun e w' => e = .returned (.int .i64 (pickN t0 520 : Int)) ∧ W = w') (fun e w' h => ⟨h.1, h.2.symm⟩)
  have AD := fun W (h : RdX W a l) => Add_any W a c N l x hN (by omega) h ho hx
  have hpn := pickN_lt t0 520 (by decide)
  generalize pickN t0 520 = t at *
  have CU := fun W (h : RdX W a l) => Cut_ok W a c N l hN (by omega) h ho (t : Int) hrl (by omega) (by omega)
  have lA := cutA_le t l
  have lB := cutB_le t l
  have CA := fun W A c (h : RdX W A (cutA t l)) => Count_any W A c _ (cutA t l) rfl (by omega) h (okX_rf (right_cutA hrl t))
  have CB := fun W A c (h : RdX W A (cutB t l)) => Count_any W A c _ (cutB t l) rfl (by omega) h (okX_rf (right_cutB hrl t))
  have CL := fun W (h : RdX W a l) => Count_any W a c N l hN (by omega) h ho
  have cc := cut_count hrl (t : Int)
  have cb1 := cnR_bd (cutA t l); have cb2 := cnR_bd (cutB t l); have cb3 := cnR_bd l
  have FL := fun W (h : RdX W a l) (n : Nat) => Find_any W a c N l hN (by omega) h ho (n : Int)
  have FA0 := fun W A c (h : RdX W A (cutA t l)) (n : Nat) => Find_any W A c _ (cutA t l) rfl (by omega) h (okX_rf (right_cutA hrl t)) (n : Int)
  have FB0 := fun W A c (h : RdX W A (cutB t l)) (n : Nat) => Find_any W A c _ (cutB t l) rfl (by omega) h (okX_rf (right_cutB hrl t)) (n : Int)
  have HCF := hid (fun n : Nat => cut_found hrl (t : Int) (n : Int))
  obtain ⟨m1, m2, m3, m4, m5, m6⟩ := add_right hok
  have e0 : addE x l = 0 := if_pos hok
  rw [e0] at AD
  have lM : (addR x l).length ≤ 999999 := by
    have h := addX_len x l
    have e : addR x l = addX x l := if_pos hok
    rw [e]; omega
  have FM0 := fun W A c (h : RdX W A (addR x l)) (n : Nat) => Find_any W A c _ (addR x l) rfl (by omega) h (okX_rf m1) (n : Int)
  have CM0 := fun W A c (h : RdX W A (addR x l)) => Count_any W A c _ (addR x l) rfl (by omega) h (okX_rf m1)
  rw [m2] at CM0
  have HAR := hid (fun n : Nat => m6 n)
  have e0 := hid e0
  clear m1 m2 m6 hok
  have HN := hid hN; have HRL := hid hrl; have HCC := hid cc
  obtain ⟨xa, xs, xc⟩ := x
  simp only [Ext.val] at *
  have hb : Below w.heap.size w (w.alloc (.cells #[.int .i64 xa, .int .i64 xs, .int .i64 xc] 24)) := (Below.refl _ _).alloc (Nat.le_refl _) _
  have HB := hid hb; have HR := hid (hr.below hb); have HX0 := hid (heap_alloc_new w (.cells #[.int .i64 xa, .int .i64 xs, .int .i64 xc] 24))
  clear hN hrl hr hb cc ho lA lB
  go_enter Try.func3, Try.ntmps3
  go_wp2_with fail
  refine (AD _ HR.out).mono ?_
  rintro e w1 ⟨A1, c1, rfl, o1, b1⟩
  have bb1 := HB.out.trans (b1.mono HB.out.size)
  have hr1 := HR.out.below b1
  have hm1 := o1.rd
  have hx1 := below_all b1 HX0.out
  clear AD o1 b1 HB HR HX0
  go_wp2_with fail
  refine (PV _).mono ?_
  rintro e w2 ⟨rfl, rfl⟩
  clear PV
  go_wp2_with fail
  refine (CU _ hr1).mono ?_
  rintro e w3 ⟨A3, c3, A4, c4, rfl, o3, b3⟩
  have bb3 := bb1.trans (b3.mono bb1.size)
  have hr3 := hr1.below b3
  have hm3 := hm1.below b3
  have hx3 := below_all b3 hx1
  have ha3 := o3.1.rd
  have hb3 := o3.2.1.rd
  have FA := fun W h n => FA0 W A3 c3 h n
  have FB := fun W h n => FB0 W A4 c4 h n
  have FM := fun W h n => FM0 W A1 c1 h n
  have CM := fun W h => CM0 W A1 c1 h
  clear FM0 CM0
  clear CU b3 hr1 hm1 hx1 o3 FA0 FB0
  go_wp2_with fail
  refine (CA _ _ _ ha3).mono ?_
  rintro e w4 ⟨rfl, b4⟩
  have bb4 := bb3.trans (b4.mono bb3.size)
  have hr4 := hr3.below b4; have hm4 := hm3.below b4; have hx4 := below_all b4 hx3; have ha4 := ha3.below b4; have hb4 := hb3.below b4
  clear b4 hr3 hm3 hx3 ha3 hb3 CA bb3
  go_wp2_with fail
  refine (CB _ _ _ hb4).mono ?_
  rintro e w5 ⟨rfl, b5⟩
  have bb5 := bb4.trans (b5.mono bb4.size)
  have hr5 := hr4.below b5; have hm5 := hm4.below b5; have hx5 := below_all b5 hx4; have ha5 := ha4.below b5; have hb5 := hb4.below b5
  clear b5 hr4 hm4 hx4 ha4 hb4 CB bb4
  go_wp2_with fail
  refine (CL _ hr5).mono ?_
  rintro e w6 ⟨rfl, b6⟩
  have bb6 := bb5.trans (b6.mono bb5.size)
  have hr6 := hr5.below b6; have hm6 := hm5.below b6; have hx6 := below_all b6 hx5; have ha6 := ha5.below b6; have hb6 := hb5.below b6
  clear b6 hr5 hm5 hx5 ha5 hb5 bb5
  have hcc : (cnR (cutA t l) + cnR (cutB t l) == cnR l) = true := by rw [HCC.out]; simp
  have hcn : (cnR (cutA t l) + cnR (cutB t l) != cnR l) = false := by rw [HCC.out]; simp
  have HXR := hid hx6; have HR6 := hid hr6; have HM6 := hid hm6; have HA6 := hid ha6; have HB6 := hid hb6; have BB6 := hid bb6
  clear hx6 hr6 hm6 ha6 hb6 bb6
  go_wp2_with fail
  go_loopw [12] (fun i wr => ∃ n : Nat, n ≤ 520 ∧ i = .int .i64 n ∧ Below w6.heap.size w6 wr) (fun i _ => 520 - (intOf i).toNat)
  case atStart => exact ⟨0, by omega, rfl, Below.refl _ _⟩
  case round =>
    obtain ⟨n, hn, rfl, hB⟩ := hrel
    obtain ⟨wa, rfl⟩ : ∃ wa, wa = wr := ⟨_, rfl⟩
    have hr0 := HR6.out.below hB
    have hm0 := HM6.out.below hB
    have hra0 := HA6.out.below hB
    have hrb0 := HB6.out.below hB
    have hrm0 := hm0
    clear hcc hcn
    by_cases hn5 : n < 520
    · rcases hth : fnB l n
      · have hth := hth
        by_cases hin : xa ≤ (n : Int) ∧ (n : Int) < xa + xc
        · as_aux_lemma =>
          have F1 := fun W (h : RdX W a l) => FL W h n
          have F2 := fun W (h : RdX W A3 (cutA t l)) => FA W h n
          have F3 := fun W (h : RdX W A4 (cutB t l)) => FB W h n
          obtain ⟨v1, v2, v3, v4⟩ := HCF.out n
          have e1 : fnB l n = false := hth
          have e2 : fnV l n = 0 := fnV_none e1
          have v1' : fnB (cutA t l) n = false := by rw [v1, e1]; split <;> rfl
          have v3' : fnB (cutB t l) n = false := by rw [v3, e1]; split <;> rfl
          have v2' := fnV_none v1'
          have v4' := fnV_none v3'
          clear v1 v2 v3 v4
          have v1 := v1'; have v2 := v2'; have v3 := v3'; have v4 := v4'
          clear v1' v2' v3' v4'
          rw [e1, e2] at F1
          rw [v1, v2] at F2
          rw [v3, v4] at F3
          have F4 := fun W (h : RdX W A1 (addR ⟨xa, xs, xc⟩ l)) => FM W h n
          obtain ⟨_, g1, g2⟩ := (HAR.out n).1 hin
          try simp only at g2
          rw [g1, g2] at F4
          clear v1 v2 v3 v4 e1 e2 g1 g2
          go_wp2_with fail
          refine (F1 _ hr0).mono ?_
          rintro e wb ⟨rfl, bq1⟩
          have ra1 := hra0.below bq1
          have rb1 := hrb0.below bq1
          have rm1 := hrm0.below bq1
          have hb1 := hB.trans (bq1.mono hB.size)
          go_wp2_with fail
          refine (F2 _ ra1).mono ?_
          rintro e wc ⟨rfl, bq2⟩
          have rb2 := rb1.below bq2
          have rm2 := rm1.below bq2
          have hb2 := hb1.trans (bq2.mono hb1.size)
          go_wp2_with fail
          refine (F3 _ rb2).mono ?_
          rintro e wd ⟨rfl, bq3⟩
          have rm3 := rm2.below bq3
          have hb3 := hb2.trans (bq3.mono hb2.size)
          clear F1 F2 F3 bq1 bq2 bq3 ra1 rb1 rb2 rm1 rm2 hb1 hb2
          go_wp2_with fail
          refine (F4 _ rm3).mono ?_
          rintro e we ⟨rfl, bq4⟩
          have hb4 := hb3.trans (bq4.mono hb3.size)
          obtain ⟨y0, y1, y2⟩ := cell3 ((hb4.block _ (heap_inX HXR.out)).trans HXR.out)
          clear F4 bq4 hb3 rm3
          have hs1 : IntKind.i64.wrap (xa + xc) = xa + xc := IntWalk.i64_in _ (by omega)
          have hi1 : xa ≤ (n : Int) := hin.1
          have hi2 : (n : Int) < xa + xc := hin.2
          clear hin
          go_wp2_with fail
          exact ⟨⟨n + 1, by omega, by go_num, hb4⟩, by simp [intOf]; omega⟩
        · as_aux_lemma =>
          have F1 := fun W (h : RdX W a l) => FL W h n
          have F2 := fun W (h : RdX W A3 (cutA t l)) => FA W h n
          have F3 := fun W (h : RdX W A4 (cutB t l)) => FB W h n
          obtain ⟨v1, v2, v3, v4⟩ := HCF.out n
          have e1 : fnB l n = false := hth
          have e2 : fnV l n = 0 := fnV_none e1
          have v1' : fnB (cutA t l) n = false := by rw [v1, e1]; split <;> rfl
          have v3' : fnB (cutB t l) n = false := by rw [v3, e1]; split <;> rfl
          have v2' := fnV_none v1'
          have v4' := fnV_none v3'
          clear v1 v2 v3 v4
          have v1 := v1'; have v2 := v2'; have v3 := v3'; have v4 := v4'
          clear v1' v2' v3' v4'
          rw [e1, e2] at F1
          rw [v1, v2] at F2
          rw [v3, v4] at F3
          have F4 := fun W (h : RdX W A1 (addR ⟨xa, xs, xc⟩ l)) => FM W h n
          obtain ⟨g1, g2⟩ := (HAR.out n).2 hin
          rw [g1, g2, e1, e2] at F4
          clear v1 v2 v3 v4 e1 e2 g1 g2
          go_wp2_with fail
          refine (F1 _ hr0).mono ?_
          rintro e wb ⟨rfl, bq1⟩
          have ra1 := hra0.below bq1
          have rb1 := hrb0.below bq1
          have rm1 := hrm0.below bq1
          have hb1 := hB.trans (bq1.mono hB.size)
          go_wp2_with fail
          refine (F2 _ ra1).mono ?_
          rintro e wc ⟨rfl, bq2⟩
          have rb2 := rb1.below bq2
          have rm2 := rm1.below bq2
          have hb2 := hb1.trans (bq2.mono hb1.size)
          go_wp2_with fail
          refine (F3 _ rb2).mono ?_
          rintro e wd ⟨rfl, bq3⟩
          have rm3 := rm2.below bq3
          have hb3 := hb2.trans (bq3.mono hb2.size)
          clear F1 F2 F3 bq1 bq2 bq3 ra1 rb1 rb2 rm1 rm2 hb1 hb2
          go_wp2_with fail
          refine (F4 _ rm3).mono ?_
          rintro e we ⟨rfl, bq4⟩
          have hb4 := hb3.trans (bq4.mono hb3.size)
          obtain ⟨y0, y1, y2⟩ := cell3 ((hb4.block _ (heap_inX HXR.out)).trans HXR.out)
          clear F4 bq4 hb3 rm3
          by_cases hi1 : xa ≤ (n : Int)
          · have hi2 : ¬ (n : Int) < xa + xc := fun h => hin ⟨hi1, h⟩
            clear hin
            go_wp2_with fail
            exact ⟨⟨n + 1, by omega, by go_num, hb4⟩, by simp [intOf]; omega⟩
          · clear hin
            have hd1 : decide (xa ≤ (n : Int)) = false := decide_eq_false hi1
            go_wp2_with fail
            exact ⟨⟨n + 1, by omega, by go_num, hb4⟩, by simp [intOf]; omega⟩
      · by_cases hlt : (n : Int) < (t : Int)
        · have hge : ¬ (t : Int) ≤ (n : Int) := by omega
          by_cases hin : xa ≤ (n : Int) ∧ (n : Int) < xa + xc
          · exact absurd (((HAR.out n).1 hin).1) (by rw [hth]; decide)
          · as_aux_lemma =>
            have F1 := fun W (h : RdX W a l) => FL W h n
            have F2 := fun W (h : RdX W A3 (cutA t l)) => FA W h n
            have F3 := fun W (h : RdX W A4 (cutB t l)) => FB W h n
            obtain ⟨v1, v2, v3, v4⟩ := HCF.out n
            have e1 : fnB l n = true := hth
            obtain ⟨was, hwas⟩ : ∃ was, was = fnV l n := ⟨_, rfl⟩
            have e2 : fnV l n = was := hwas.symm
            rw [e1, if_pos hlt] at v1
            rw [e2, if_pos hlt] at v2
            rw [e1, if_neg hge] at v3
            rw [e2, if_neg hge] at v4
            rw [e1, e2] at F1
            rw [v1, v2] at F2
            rw [v3, v4] at F3
            have F4 := fun W (h : RdX W A1 (addR ⟨xa, xs, xc⟩ l)) => FM W h n
            obtain ⟨g1, g2⟩ := (HAR.out n).2 hin
            rw [g1, g2, e1, e2] at F4
            clear v1 v2 v3 v4 e1 e2 g1 g2 hwas
            go_wp2_with fail
            refine (F1 _ hr0).mono ?_
            rintro e wb ⟨rfl, bq1⟩
            have ra1 := hra0.below bq1
            have rb1 := hrb0.below bq1
            have rm1 := hrm0.below bq1
            have hb1 := hB.trans (bq1.mono hB.size)
            go_wp2_with fail
            refine (F2 _ ra1).mono ?_
            rintro e wc ⟨rfl, bq2⟩
            have rb2 := rb1.below bq2
            have rm2 := rm1.below bq2
            have hb2 := hb1.trans (bq2.mono hb1.size)
            go_wp2_with fail
            refine (F3 _ rb2).mono ?_
            rintro e wd ⟨rfl, bq3⟩
            have rm3 := rm2.below bq3
            have hb3 := hb2.trans (bq3.mono hb2.size)
            clear F1 F2 F3 bq1 bq2 bq3 ra1 rb1 rb2 rm1 rm2 hb1 hb2
            go_wp2_with fail
            refine (F4 _ rm3).mono ?_
            rintro e we ⟨rfl, bq4⟩
            have hb4 := hb3.trans (bq4.mono hb3.size)
            obtain ⟨y0, y1, y2⟩ := cell3 ((hb4.block _ (heap_inX HXR.out)).trans HXR.out)
            clear F4 bq4 hb3 rm3
            by_cases hi1 : xa ≤ (n : Int)
            · have hi2 : ¬ (n : Int) < xa + xc := fun h => hin ⟨hi1, h⟩
              clear hin
              go_wp2_with fail
              exact ⟨⟨n + 1, by omega, by go_num, hb4⟩, by simp [intOf]; omega⟩
            · clear hin
              have hd1 : decide (xa ≤ (n : Int)) = false := decide_eq_false hi1
              go_wp2_with fail
              exact ⟨⟨n + 1, by omega, by go_num, hb4⟩, by simp [intOf]; omega⟩
        · have hge : (t : Int) ≤ (n : Int) := by omega
          by_cases hin : xa ≤ (n : Int) ∧ (n : Int) < xa + xc
          · exact absurd (((HAR.out n).1 hin).1) (by rw [hth]; decide)
          · as_aux_lemma =>
            have F1 := fun W (h : RdX W a l) => FL W h n
            have F2 := fun W (h : RdX W A3 (cutA t l)) => FA W h n
            have F3 := fun W (h : RdX W A4 (cutB t l)) => FB W h n
            obtain ⟨v1, v2, v3, v4⟩ := HCF.out n
            have e1 : fnB l n = true := hth
            obtain ⟨was, hwas⟩ : ∃ was, was = fnV l n := ⟨_, rfl⟩
            have e2 : fnV l n = was := hwas.symm
            rw [e1, if_neg hlt] at v1
            rw [e2, if_neg hlt] at v2
            rw [e1, if_pos hge] at v3
            rw [e2, if_pos hge] at v4
            rw [e1, e2] at F1
            rw [v1, v2] at F2
            rw [v3, v4] at F3
            have F4 := fun W (h : RdX W A1 (addR ⟨xa, xs, xc⟩ l)) => FM W h n
            obtain ⟨g1, g2⟩ := (HAR.out n).2 hin
            rw [g1, g2, e1, e2] at F4
            clear v1 v2 v3 v4 e1 e2 g1 g2 hwas
            go_wp2_with fail
            refine (F1 _ hr0).mono ?_
            rintro e wb ⟨rfl, bq1⟩
            have ra1 := hra0.below bq1
            have rb1 := hrb0.below bq1
            have rm1 := hrm0.below bq1
            have hb1 := hB.trans (bq1.mono hB.size)
            go_wp2_with fail
            refine (F2 _ ra1).mono ?_
            rintro e wc ⟨rfl, bq2⟩
            have rb2 := rb1.below bq2
            have rm2 := rm1.below bq2
            have hb2 := hb1.trans (bq2.mono hb1.size)
            go_wp2_with fail
            refine (F3 _ rb2).mono ?_
            rintro e wd ⟨rfl, bq3⟩
            have rm3 := rm2.below bq3
            have hb3 := hb2.trans (bq3.mono hb2.size)
            clear F1 F2 F3 bq1 bq2 bq3 ra1 rb1 rb2 rm1 rm2 hb1 hb2
            go_wp2_with fail
            refine (F4 _ rm3).mono ?_
            rintro e we ⟨rfl, bq4⟩
            have hb4 := hb3.trans (bq4.mono hb3.size)
            obtain ⟨y0, y1, y2⟩ := cell3 ((hb4.block _ (heap_inX HXR.out)).trans HXR.out)
            clear F4 bq4 hb3 rm3
            by_cases hi1 : xa ≤ (n : Int)
            · have hi2 : ¬ (n : Int) < xa + xc := fun h => hin ⟨hi1, h⟩
              clear hin
              go_wp2_with fail
              exact ⟨⟨n + 1, by omega, by go_num, hb4⟩, by simp [intOf]; omega⟩
            · clear hin
              have hd1 : decide (xa ≤ (n : Int)) = false := decide_eq_false hi1
              go_wp2_with fail
              exact ⟨⟨n + 1, by omega, by go_num, hb4⟩, by simp [intOf]; omega⟩
    · obtain rfl : n = 520 := by omega
      have bbf := BB6.out.trans (hB.mono BB6.out.size)
      have hxf := below_all hB HXR.out
      clear hra0 hrb0 FL FA FB hrm0 hn5
      obtain ⟨y0, y1, y2⟩ := cell3 hxf
      have y2d : wa.drew.cell? ⟨w.heap.size, 2, none⟩ = some (.int .i64 xc) := y2
      have bd : Below wa.heap.size wa wa.drew := below_drewN2 (Below.refl _ _) 1
      have hxd := below_all bd hxf
      have hmd := hm0.below bd
      have hrd := hr0.below bd
      have bbd := bbf.trans (bd.mono bbf.size)
      have hs1 : IntKind.i64.wrap (cnR l + xc) = cnR l + xc := IntWalk.i64_in _ (by omega)
      clear y0 y1 hm0 hr0
      go_wp2_with fail
      refine wp_region_held_drew (S := fun W1 => W1.cell? ⟨w.heap.size, 2, none⟩ = some (.int .i64 xc)) (by kernel_rfl) (by exact y2d) (fun hHeld => ?_)
      refine wpAnyH_take (i := 0) (oi := ?o0) (v := ?v0) ?hi0 (by kernel_rfl) (by kernel_rfl) ?hr0 ?hQ0 ?hy0 hHeld ?r0
      case hi0 => (simp only [List.getElem?_toArray, List.getElem?_cons_zero, List.getElem?_cons_succ]; rfl)
      case hr0 => kernel_rfl
      case hQ0 => exact fun _ _ _ h => h
      case hy0 => (refine Or.inl ⟨by rfl, ?_⟩; intro w hSw; (try dsimp only at hSw); go_simp; try with_reducible rfl)
      try simp only [Act.put, List.setIfInBounds_toArray, List.set_cons_zero, List.set_cons_succ]
      refine wpAnyH_take (i := 1) (oi := ?o1) (v := ?v1) ?hi1 (by kernel_rfl) (by kernel_rfl) ?hr1 ?hQ1 ?hy1 hHeld ?r1
      case hi1 => (simp only [List.getElem?_toArray, List.getElem?_cons_zero, List.getElem?_cons_succ]; rfl)
      case hr1 => kernel_rfl
      case hQ1 => exact fun _ _ _ h => h
      case hy1 => (refine Or.inl ⟨by rfl, ?_⟩; intro w hSw; (try dsimp only at hSw); go_simp; try with_reducible rfl)
      try simp only [Act.put, List.setIfInBounds_toArray, List.set_cons_zero, List.set_cons_succ]
      refine wpAnyH_take (i := 2) (oi := ?o2) (v := ?v2) ?hi2 (by kernel_rfl) (by kernel_rfl) ?hr2 ?hQ2 ?hy2 hHeld ?r2
      case hi2 => (simp only [List.getElem?_toArray, List.getElem?_cons_zero, List.getElem?_cons_succ]; rfl)
      case hr2 => kernel_rfl
      case hQ2 => exact fun _ _ _ h => h
      case hy2 => (refine Or.inl ⟨by rfl, ?_⟩; intro w hSw; (try dsimp only at hSw); go_simp; try with_reducible rfl)
      try simp only [Act.put, List.setIfInBounds_toArray, List.set_cons_zero, List.set_cons_succ]
      refine wpAnyH_take (i := 3) (oi := ?o3) (v := undef) ?hi3 (by kernel_rfl) (by kernel_rfl) ?hr3 ?hQ3 ?hy3 hHeld ?r3
      case hi3 => (simp only [List.getElem?_toArray, List.getElem?_cons_zero, List.getElem?_cons_succ]; rfl)
      case hr3 => kernel_rfl
      case hQ3 => exact fun _ _ _ h => h
      case hy3 => exact Or.inr ⟨by rfl, rfl⟩
      try simp only [Act.put, List.setIfInBounds_toArray, List.set_cons_zero, List.set_cons_succ]
      refine wpAnyH_take (i := 4) (oi := ?o4) (v := undef) ?hi4 (by kernel_rfl) (by kernel_rfl) ?hr4 ?hQ4 ?hy4 hHeld ?r4
      case hi4 => (simp only [List.getElem?_toArray, List.getElem?_cons_zero, List.getElem?_cons_succ]; rfl)
      case hr4 => kernel_rfl
      case hQ4 => exact fun _ _ _ h => h
      case hy4 => exact Or.inr ⟨by rfl, rfl⟩
      try simp only [Act.put, List.setIfInBounds_toArray, List.set_cons_zero, List.set_cons_succ]
      refine wpAnyH_take (i := 5) (oi := ?o5) (v := ?v5) ?hi5 (by kernel_rfl) (by kernel_rfl) ?hr5 ?hQ5 ?hy5 hHeld ?r5
      case hi5 => (simp only [List.getElem?_toArray, List.getElem?_cons_zero, List.getElem?_cons_succ]; rfl)
      case hr5 => kernel_rfl
      case hQ5 => exact fun _ _ _ h => h
      case hy5 => (refine Or.inl ⟨by rfl, ?_⟩; intro w hSw; (try dsimp only at hSw); go_simp; try with_reducible rfl)
      try simp only [Act.put, List.setIfInBounds_toArray, List.set_cons_zero, List.set_cons_succ]
      refine wpAnyH_take (i := 6) (oi := ?o6) (v := ?v6) ?hi6 (by kernel_rfl) (by kernel_rfl) ?hr6 ?hQ6 ?hy6 hHeld ?r6
      case hi6 => (simp only [List.getElem?_toArray, List.getElem?_cons_zero, List.getElem?_cons_succ]; rfl)
      case hr6 => kernel_rfl
      case hQ6 => exact fun _ _ _ h => h
      case hy6 => (refine Or.inl ⟨by rfl, ?_⟩; intro w hSw; (try dsimp only at hSw); go_simp; try with_reducible rfl)
      try simp only [Act.put, List.setIfInBounds_toArray, List.set_cons_zero, List.set_cons_succ]
      refine wpAnyH_take (i := 7) (oi := ?o7) (v := ?v7) ?hi7 (by kernel_rfl) (by kernel_rfl) ?hr7 ?hQ7 ?hy7 hHeld ?r7
      case hi7 => (simp only [List.getElem?_toArray, List.getElem?_cons_zero, List.getElem?_cons_succ]; rfl)
      case hr7 => kernel_rfl
      case hQ7 => exact fun _ _ _ h => h
      case hy7 => (refine Or.inl ⟨by rfl, ?_⟩; intro w hSw; (try dsimp only at hSw); go_simp; try with_reducible rfl)
      try simp only [Act.put, List.setIfInBounds_toArray, List.set_cons_zero, List.set_cons_succ]
      refine wpAnyH_take (i := 8) (oi := ?o8) (v := ?v8) ?hi8 (by kernel_rfl) (by kernel_rfl) ?hr8 ?hQ8 ?hy8 hHeld ?r8
      case hi8 => (simp only [List.getElem?_toArray, List.getElem?_cons_zero, List.getElem?_cons_succ]; rfl)
      case hr8 => kernel_rfl
      case hQ8 => exact fun _ _ _ h => h
      case hy8 => (refine Or.inl ⟨by rfl, ?_⟩; intro w hSw; (try dsimp only at hSw); go_simp; try with_reducible rfl)
      try simp only [Act.put, List.setIfInBounds_toArray, List.set_cons_zero, List.set_cons_succ]
      refine wpAnyH_take (i := 9) (oi := ?o9) (v := ?v9) ?hi9 (by kernel_rfl) (by kernel_rfl) ?hr9 ?hQ9 ?hy9 hHeld ?r9
      case hi9 => (simp only [List.getElem?_toArray, List.getElem?_cons_zero, List.getElem?_cons_succ]; rfl)
      case hr9 => kernel_rfl
      case hQ9 => exact fun _ _ _ h => h
      case hy9 => (refine Or.inl ⟨by rfl, ?_⟩; intro w hSw; (try dsimp only at hSw); go_simp; try with_reducible rfl)
      try simp only [Act.put, List.setIfInBounds_toArray, List.set_cons_zero, List.set_cons_succ]
      refine wpAnyH_take (i := 10) (oi := ?o10) (v := ?v10) ?hi10 (by kernel_rfl) (by kernel_rfl) ?hr10 ?hQ10 ?hy10 hHeld ?r10
      case hi10 => (simp only [List.getElem?_toArray, List.getElem?_cons_zero, List.getElem?_cons_succ]; rfl)
      case hr10 => kernel_rfl
      case hQ10 => exact fun _ _ _ h => h
      case hy10 => (refine Or.inl ⟨by rfl, ?_⟩; intro w hSw; (try dsimp only at hSw); go_simp; try with_reducible rfl)
      try simp only [Act.put, List.setIfInBounds_toArray, List.set_cons_zero, List.set_cons_succ]
      refine wpAnyH_take (i := 12) (oi := ?o12) (v := ?v12) ?hi12 (by kernel_rfl) (by kernel_rfl) ?hr12 ?hQ12 ?hy12 hHeld ?r12
      case hi12 => (simp only [List.getElem?_toArray, List.getElem?_cons_zero, List.getElem?_cons_succ]; rfl)
      case hr12 => kernel_rfl
      case hQ12 => exact fun _ _ _ h => h
      case hy12 => (refine Or.inl ⟨by rfl, ?_⟩; intro w hSw; (try dsimp only at hSw); go_simp; try with_reducible rfl)
      try simp only [Act.put, List.setIfInBounds_toArray, List.set_cons_zero, List.set_cons_succ]
      refine wpAnyH_take (i := 14) (oi := ?o14) (v := ?v14) ?hi14 (by kernel_rfl) (by kernel_rfl) ?hr14 ?hQ14 ?hy14 hHeld ?r14
      case hi14 => (simp only [List.getElem?_toArray, List.getElem?_cons_zero, List.getElem?_cons_succ]; rfl)
      case hr14 => kernel_rfl
      case hQ14 => exact fun _ _ _ h => h
      case hy14 => (refine Or.inl ⟨by rfl, ?_⟩; intro w hSw; (try dsimp only at hSw); go_simp; try with_reducible rfl)
      try simp only [Act.put, List.setIfInBounds_toArray, List.set_cons_zero, List.set_cons_succ]
      refine wpAnyH_take (i := 15) (oi := ?o15) (v := ?v15) ?hi15 (by kernel_rfl) (by kernel_rfl) ?hr15 ?hQ15 ?hy15 hHeld ?r15
      case hi15 => (simp only [List.getElem?_toArray, List.getElem?_cons_zero, List.getElem?_cons_succ]; rfl)
      case hr15 => kernel_rfl
      case hQ15 => exact fun _ _ _ h => h
      case hy15 => (refine Or.inl ⟨by rfl, ?_⟩; intro w hSw; (try dsimp only at hSw); go_simp; try with_reducible rfl)
      try simp only [Act.put, List.setIfInBounds_toArray, List.set_cons_zero, List.set_cons_succ]
      refine wpAnyH_ready (rs := [11]) (by kernel_rfl) (by simp) (AllReadyH.cons (o := ?o11) ?hi11 (fun K hK => ?r11) AllReadyH.nil)
      case hi11 => (simp only [List.getElem?_toArray, List.getElem?_cons_zero, List.getElem?_cons_succ]; rfl)
      go_simp
      go_at_call_of 16 (A1)
      refine (CM _ hmd).mono ?_
      rintro e w7 ⟨rfl, b7⟩
      have BB7 := hid (bbd.trans (b7.mono bbd.size))
      have HX7 := hid (below_all b7 hxd)
      have HR7 := hid (hrd.below b7)
      have y3 := (cell3 HX7.out).2.2
      refine hK.out _ _ (by exact y3) (fun hHeld => ?_)
      clear hK K
      try simp only [Act.put, List.setIfInBounds_toArray, List.set_cons_zero, List.set_cons_succ]
      refine wpAnyH_ready (rs := [13]) (by kernel_rfl) (by simp) (AllReadyH.cons (o := ?o13) ?hi13 (fun K hK => ?r13) AllReadyH.nil)
      case hi13 => (simp only [List.getElem?_toArray, List.getElem?_cons_zero, List.getElem?_cons_succ]; rfl)
      go_simp
      go_at_call_of 16 (N)
      refine (CL _ HR7.out).mono ?_
      rintro e w8 ⟨rfl, b8⟩
      have BB8 := hid (BB7.out.trans (b8.mono BB7.out.size))
      have HX8 := hid (below_all b8 HX7.out)
      have y4 := (cell3 HX8.out).2.2
      refine hK.out _ _ (by exact y4) (fun hHeld => ?_)
      clear hK K
      try simp only [Act.put, List.setIfInBounds_toArray, List.set_cons_zero, List.set_cons_succ]
      refine wpAnyH_take (i := 16) (oi := ?o16) (v := ?v16) ?hi16 (by kernel_rfl) (by kernel_rfl) ?hr16 ?hQ16 ?hy16 hHeld ?r16
      case hi16 => (simp only [List.getElem?_toArray, List.getElem?_cons_zero, List.getElem?_cons_succ]; rfl)
      case hr16 => kernel_rfl
      case hQ16 => exact fun _ _ _ h => h
      case hy16 => (refine Or.inl ⟨by rfl, ?_⟩; intro w hSw; (try dsimp only at hSw); go_simp; try with_reducible rfl)
      try simp only [Act.put, List.setIfInBounds_toArray, List.set_cons_zero, List.set_cons_succ]
      refine wpAnyH_take (i := 17) (oi := ?o17) (v := ?v17) ?hi17 (by kernel_rfl) (by kernel_rfl) ?hr17 ?hQ17 ?hy17 hHeld ?r17
      case hi17 => (simp only [List.getElem?_toArray, List.getElem?_cons_zero, List.getElem?_cons_succ]; rfl)
      case hr17 => kernel_rfl
      case hQ17 => exact fun _ _ _ h => h
      case hy17 => (refine Or.inl ⟨by rfl, ?_⟩; intro w hSw; (try dsimp only at hSw); go_simp; try with_reducible rfl)
      try simp only [Act.put, List.setIfInBounds_toArray, List.set_cons_zero, List.set_cons_succ]
      refine wpAnyH_take (i := 18) (oi := ?o18) (v := ?v18) ?hi18 (by kernel_rfl) (by kernel_rfl) ?hr18 ?hQ18 ?hy18 hHeld ?r18
      case hi18 => (simp only [List.getElem?_toArray, List.getElem?_cons_zero, List.getElem?_cons_succ]; rfl)
      case hr18 => kernel_rfl
      case hQ18 => exact fun _ _ _ h => h
      case hy18 => (refine Or.inl ⟨by rfl, ?_⟩; intro w hSw; (try dsimp only at hSw); go_simp; try with_reducible rfl)
      try simp only [Act.put, List.setIfInBounds_toArray, List.set_cons_zero, List.set_cons_succ]
      refine wpAnyH_take (i := 19) (oi := ?o19) (v := ?v19) ?hi19 (by kernel_rfl) (by kernel_rfl) ?hr19 ?hQ19 ?hy19 hHeld ?r19
      case hi19 => (simp only [List.getElem?_toArray, List.getElem?_cons_zero, List.getElem?_cons_succ]; rfl)
      case hr19 => kernel_rfl
      case hQ19 => exact fun _ _ _ h => h
      case hy19 => (refine Or.inl ⟨by rfl, ?_⟩; intro w hSw; (try dsimp only at hSw); go_simp; try with_reducible rfl)
      try simp only [Act.put, List.setIfInBounds_toArray, List.set_cons_zero, List.set_cons_succ]
      refine wpAnyH_take (i := 20) (oi := ?o20) (v := ?v20) ?hi20 (by kernel_rfl) (by kernel_rfl) ?hr20 ?hQ20 ?hy20 hHeld ?r20
      case hi20 => (simp only [List.getElem?_toArray, List.getElem?_cons_zero, List.getElem?_cons_succ]; rfl)
      case hr20 => kernel_rfl
      case hQ20 => exact fun _ _ _ h => h
      case hy20 => (refine Or.inl ⟨by rfl, ?_⟩; intro w hSw; (try dsimp only at hSw); go_simp; try with_reducible rfl)
      try simp only [Act.put, List.setIfInBounds_toArray, List.set_cons_zero, List.set_cons_succ]
      refine wpAnyH_ready (rs := [21]) (by kernel_rfl) (by simp) (AllReadyH.cons (o := ?o21) ?hi21 (fun K hK => ?r21) AllReadyH.nil)
      case hi21 => (simp only [List.getElem?_toArray, List.getElem?_cons_zero, List.getElem?_cons_succ]; rfl)
      go_simp
      go_at_call 12
      refine (AW _).mono ?_
      rintro e w9 ⟨rfl, b9⟩
      have BB9 := hid (BB8.out.trans (b9.mono BB8.out.size))
      have y5 := (cell3 (below_all b9 HX8.out)).2.2
      refine hK.out _ _ (by exact y5) (fun hHeld => ?_)
      clear hK K
      try simp only [Act.put, List.setIfInBounds_toArray, List.set_cons_zero, List.set_cons_succ]
      refine wpAnyH_take (i := 22) (oi := ?o22) (v := ?v22) ?hi22 (by kernel_rfl) (by kernel_rfl) ?hr22 ?hQ22 ?hy22 hHeld ?r22
      case hi22 => (simp only [List.getElem?_toArray, List.getElem?_cons_zero, List.getElem?_cons_succ]; rfl)
      case hr22 => kernel_rfl
      case hQ22 => exact fun _ _ _ h => h
      case hy22 => (refine Or.inl ⟨by rfl, ?_⟩; intro w hSw; (try dsimp only at hSw); go_simp; try with_reducible rfl)
      try simp only [Act.put, List.setIfInBounds_toArray, List.set_cons_zero, List.set_cons_succ]
      refine wpAnyH_take (i := 23) (oi := ?o23) (v := ?v23) ?hi23 (by kernel_rfl) (by kernel_rfl) ?hr23 ?hQ23 ?hy23 hHeld ?r23
      case hi23 => (simp only [List.getElem?_toArray, List.getElem?_cons_zero, List.getElem?_cons_succ]; rfl)
      case hr23 => kernel_rfl
      case hQ23 => exact fun _ _ _ h => h
      case hy23 => (refine Or.inl ⟨by rfl, ?_⟩; intro w hSw; (try dsimp only at hSw); go_simp; try with_reducible rfl)
      try simp only [Act.put, List.setIfInBounds_toArray, List.set_cons_zero, List.set_cons_succ]
      refine wpAnyH_done (by kernel_rfl) ?_ _
      go_wp2
      go_ret
      exact ⟨rfl, BB9.out⟩

theorem ExtentsBlocks_any (w : World) (l : List Ext) (x : Ext) (t0 : Int) (a : Option Addr) (c : Nat) (hl : l.length ≤ 7000000000000) (hr : RdX w a l) (ho : okX l) (hx : x.ok) (ht : -9223372036854775808 ≤ t0 ∧ t0 ≤ 9223372036854775807) :
    Calls Try.prog 3 #[.slice a l.length c, x.val, .int .i64 t0] w fun e w' => e = .returned (.bool true) ∧ Below w.heap.size w w' := by
  by_cases h3 : 300 < l.length
  · exact Blocks_long w a c _ x t0 h3
  · rcases hrl : rightX l
    · exact Blocks_bad w a c _ l rfl x t0 (by omega) hr ho hx ht hrl
    · by_cases hok : addOk x l = true
      · exact Blocks_put w a c _ l rfl x t0 (by omega) hr ho hx ht hrl hok
      · exact Blocks_not w a c _ l rfl x t0 (by omega) hr ho hx ht hrl (if_neg hok)
end Go.Proofs.Ytahlhdhljjpeoaa
