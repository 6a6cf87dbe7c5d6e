/- DiskPlays: what is known of both disks on the way, and the walk (printed by gen04q.py). -/
import Derived.Test.YtddejjmebokgiaaLaw04p
namespace Go.Proofs.Ytddejjmebokgiaa
open Go.RowKit
variable {Q : Nat → Prop}
set_option maxHeartbeats 3200000
set_option maxRecDepth 100000
set_option linter.unusedVariables false
set_option linter.unusedSimpArgs false

/-- Both disks of a play: the program's at D, the document's in the block P. -/
structure Pl (B : Nat) (w : World) (P D : Nat) (S F : Nat → Prop) (d : Dk) (gs cs c : Nat) (A : Option Addr) : Prop where
  i : IsDk AnyB B w D S d
  r : IsRf AnyB w F (rfA (.slice (some ⟨gs, 0, none⟩) d.safe.length cs) (.slice A d.wn.length c) d) d
  row : w.heap[P]? = some (.cells #[.slice (some ⟨gs, 0, none⟩) d.safe.length cs, .slice A d.wn.length c, .int .i64 d.count, .bool d.down, .int .i64 d.am, .int .i64 d.fm] 59 (0, 0))
  sep : ∀ b, S b → ¬ F b
  pS : ¬ S P
  pF : ¬ F P
  fit : d.fit
  bP : B ≤ P
theorem Pl.below {B P D gs cs c : Nat} {w w' : World} {S F : Nat → Prop} {d : Dk} {A : Option Addr} (h : Pl B w P D S F d gs cs c A) (b : Below w.heap.size w w') : Pl B w' P D S F d gs cs c A :=
  ⟨h.i.below b, h.r.below b, (b.block _ (heap_in h.row)).trans h.row, h.sep, h.pS, h.pF, h.fit, h.bP⟩
/-- Behind a call of the script, and the store of what it gave back. -/
theorem Pl.play {B P D gs cs c : Nat} {w w2 : World} {S F : Nat → Prop} {d d' : Dk} {A : Option Addr} {e : Ending} (h : Pl B w P D S F d gs cs c A) (hd : DoesP B w D S F d d' e w2) (hf : d'.fit) :
    ∃ (S' F' : Nat → Prop) (gs' cs' c' : Nat) (A' : Option Addr), e = .returned (.tuple #[.agg #[.slice (some ⟨gs', 0, none⟩) d'.safe.length cs', .slice A' d'.wn.length c', .int .i64 d'.count, .bool d'.down, .int .i64 d'.am, .int .i64 d'.fm], .bool true]) ∧ (∃ cq, w2.heap[P]? = some (.cells #[.slice (some ⟨gs, 0, none⟩) d.safe.length cs, .slice A d.wn.length c, .int .i64 d.count, .bool d.down, .int .i64 d.am, .int .i64 d.fm] 59 (0, 0)) ∧ cq = 0) ∧
      (∀ wg, wg = ((((((w2.setCell ⟨P, 0, none⟩ (.slice (some ⟨gs', 0, none⟩) d'.safe.length cs')).setCell ⟨P, 1, none⟩ (.slice A' d'.wn.length c')).setCell ⟨P, 2, none⟩ (.int .i64 d'.count)).setCell ⟨P, 3, none⟩ (.bool d'.down)).setCell ⟨P, 4, none⟩ (.int .i64 d'.am)).setCell ⟨P, 5, none⟩ (.int .i64 d'.fm)) → Pl B wg P D S' F' d' gs' cs' c' A') ∧ Kpt S w w2 := by
  obtain ⟨v', S', F', rfl, h1, h2, h3, h4, h5, h6⟩ := hd
  obtain ⟨gs', cs', A', c', rfl⟩ := h2.two
  have hr2 := (h4.block _ (heap_in h.row) h.pS).trans h.row
  refine ⟨S', F', gs', cs', c', A', rfl, ⟨0, hr2, rfl⟩, ?_, h4⟩
  rintro wg rfl
  have hP := heap_in h.row
  have kg : Kpt (fun b => b = P) w2 ((((((w2.setCell ⟨P, 0, none⟩ (.slice (some ⟨gs', 0, none⟩) d'.safe.length cs')).setCell ⟨P, 1, none⟩ (.slice A' d'.wn.length c')).setCell ⟨P, 2, none⟩ (.int .i64 d'.count)).setCell ⟨P, 3, none⟩ (.bool d'.down)).setCell ⟨P, 4, none⟩ (.int .i64 d'.am)).setCell ⟨P, 5, none⟩ (.int .i64 d'.fm)) := kpt_set6 (Kpt.refl _ _) rfl
  have hu : ∀ b, b = P → ¬ U8 w2 b := by rintro b rfl; exact row_not_u8 hr2 (by decide)
  have pS' : ¬ S' P := fun x => by rcases h5 P x with q | q; exact h.pS q; omega
  have pF' : ¬ F' P := fun x => by rcases h6 P x with q | q; exact h.pF q; omega
  exact ⟨h1.kpt kg hu (fun b hb e => pS' (e ▸ hb)), h2.kpt kg hu (fun b hb e => pF' (e ▸ hb)), row_set6 hr2, h3, pS', pF', hf, h.bP⟩
/-- Behind a copy that takes the disk's place. -/
theorem Pl.copy {B P D E gs cs c : Nat} {w w2 : World} {S S' F : Nat → Prop} {d : Dk} {A : Option Addr} (h : Pl B w P D S F d gs cs c A) (hb : Below w.heap.size w w2) (hc : IsDk AnyB w.heap.size w2 E S' d.copy) (hB : B ≤ w.heap.size) :
    Pl B (w2.setCell ⟨P, 2, none⟩ (.int .i64 0)) P E S' F d.copy gs cs c A := by
  have hP := heap_in h.row
  have h2 := h.below hb
  have kg : Kpt (fun b => b = P) w2 (w2.setCell ⟨P, 2, none⟩ (.int .i64 0)) := kpt_one _
  have hu : ∀ b, b = P → ¬ U8 w2 b := by rintro b rfl; exact row_not_u8 h2.row (by decide)
  have pS' : ¬ S' P := fun x => by have := (hc.blocks x).1; omega
  obtain ⟨v', r1, r2⟩ := h2.r.like (x := d.copy) rfl rfl rfl
  have e := r2 _ _ rfl
  subst e
  refine ⟨(hc.mono hB).kpt kg hu (fun b hb e => pS' (e ▸ hb)), r1.kpt kg hu (fun b hb e => h.pF (e ▸ hb)), ?_, fun b hb hf => ?_, pS', h.pF, fit_copy h.fit, h.bP⟩
  · exact heap_setCell_same _ _ _ _ _ _ h2.row
  · have h3 := (hc.blocks hb).1
    obtain ⟨_, _, _, _, _, _, _, _, _, _, _, _, h5⟩ := h.r
    have := (h5 b hf).1
    omega
theorem Pl.kpt {B P D gs cs c : Nat} {w w' : World} {S F T : Nat → Prop} {d : Dk} {A : Option Addr} (h : Pl B w P D S F d gs cs c A) (k : Kpt T w w') (hT : ∀ b, T b → ¬ U8 w b) (n0 : Nat) (h0 : ∀ b, T b → n0 ≤ b) (h1 : ∀ b, S b → b < n0) (h2 : ∀ b, F b → b < n0) (h3 : P < n0) : Pl B w' P D S F d gs cs c A :=
  ⟨h.i.kpt k hT (fun b hb ht => by have := h0 b ht; have := h1 b hb; omega), h.r.kpt k hT (fun b hb ht => by have := h0 b ht; have := h2 b hb; omega), (k.block _ (heap_in h.row) (fun ht => by have := h0 _ ht; omega)).trans h.row, h.sep, h.pS, h.pF, h.fit, h.bP⟩
theorem Pl.six {B P D gs cs c : Nat} {w : World} {S F : Nat → Prop} {d : Dk} {A : Option Addr} (h : Pl B w P D S F d gs cs c A) : w.cell? ⟨P, 0, none⟩ = some (.slice (some ⟨gs, 0, none⟩) d.safe.length cs) ∧ w.cell? ⟨P, 1, none⟩ = some (.slice A d.wn.length c) ∧ w.cell? ⟨P, 2, none⟩ = some (.int .i64 d.count) ∧ w.cell? ⟨P, 3, none⟩ = some (.bool d.down) ∧ w.cell? ⟨P, 4, none⟩ = some (.int .i64 d.am) ∧ w.cell? ⟨P, 5, none⟩ = some (.int .i64 d.fm) := _root_.Go.Proofs.Ytddejjmebokgiaa.six h.row
theorem Pl.ltF {B P D gs cs c : Nat} {w : World} {S F : Nat → Prop} {d : Dk} {A : Option Addr} (h : Pl B w P D S F d gs cs c A) : ∀ b, F b → b < w.heap.size := by
  obtain ⟨_, _, _, _, _, _, _, _, _, _, _, _, h5⟩ := h.r
  exact fun b hb => (h5 b hb).1
theorem crS_copy (d : Dk) (ks : List Bool) (a : Int) (s : Nat) : ∀ j, d.copy.crS ks a s j = d.crS ks a s j
  | 0 => rfl
  | j + 1 => by
    have := crS_copy d ks a s j
    unfold Dk.crS
    rw [this]
    rfl
theorem flat_len {L : List (List UInt8)} (h : ∀ l ∈ L, l.length = 4096) : L.flatten.length = 4096 * L.length := by
  induction L with
  | nil => rfl
  | cons a L ih =>
    have h1 := h a (by simp)
    have h2 := ih (fun l hl => h l (by simp [hl]))
    simp only [List.flatten_cons, List.length_append, List.length_cons, h1, h2]
    omega
def op0 : Opr := ⟨0, 0, 0, 0, [], none, 0, 0⟩
/-- A script in memory. -/
def RdO (w : World) (a : Option Addr) (l : List Opr) : Prop :=
  ∀ i, i < l.length → ∃ b off, a = some ⟨b, off, none⟩ ∧ w.cell? ⟨b, off + i * 6, none⟩ = some (.int .i64 (l.getD i op0).k) ∧ w.cell? ⟨b, off + i * 6 + 1, none⟩ = some (.int .i64 (l.getD i op0).n) ∧ w.cell? ⟨b, off + i * 6 + 2, none⟩ = some (.int .i64 (l.getD i op0).sz) ∧
    w.cell? ⟨b, off + i * 6 + 3, none⟩ = some (.int .i64 (l.getD i op0).b) ∧ w.cell? ⟨b, off + i * 6 + 4, none⟩ = some (.slice (l.getD i op0).ka (l.getD i op0).ks.length (l.getD i op0).kc) ∧ w.cell? ⟨b, off + i * 6 + 5, none⟩ = some (.int .u8 ((l.getD i op0).s : Int)) ∧ (l.getD i op0).ok w

theorem DiskPlays_any (w : World) (x : Int) (ops : List Opr) (a : Option Addr) (c : Nat) (hx : -9223372036854775808 ≤ x ∧ x ≤ 9223372036854775807) (hl : ops.length ≤ 140737488351232) (hr : RdO w a ops) :
    Calls Try.prog 8 #[.int .i64 x, .slice a ops.length c] w fun e w' => e = .returned (.bool true) ∧ Below w.heap.size w w' := by
  have AW := awake04_any
  have PV := (Pick_val w x 6 6 rfl hx (by decide) (by decide)).mono (R' := fun e w' => e = .returned (.int .i64 (pickN x 6 : Int)) ∧ w = w') (fun e w' h => ⟨h.1, h.2.symm⟩)
  have hp := pickN_lt x 6 (by decide)
  generalize pickN x 6 = p at *
  have NW := New_any w (1 + p) (by omega) (by omega)
  have RN := fun W => RNew_any W (1 + p) (by omega) (by omega)
  have hfit0 := fit_new (1 + p) (by omega) (by omega)
  have hcast : ((1 + p : Nat) : Int) = 1 + (p : Int) := by omega
  rw [hcast] at NW
  simp only [hcast] at RN
  have hn0 : (newDk (1 + p)).now.length = 1 + p ∧ (newDk (1 + p)).wn.length = 0 := by simp [newDk, mkDk]
  generalize newDk (1 + p) = d0 at *
  have HFIT0 := hid hfit0; have HN0 := hid hn0; have HR := hid hr
  obtain ⟨N, hN⟩ : ∃ N, N = ops.length := ⟨_, rfl⟩
  rw [← hN] at hl ⊢
  have HN := hid hN
  clear hN hr hfit0 hn0 hcast
  go_enter Try.func8, Try.ntmps8
  go_wp2_with fail
  refine PV.mono ?_
  rintro e w' ⟨rfl, rfl⟩
  clear PV
  go_wp2_with fail
  refine NW.mono ?_
  rintro e v1 ⟨D0, S0, rfl, i1q, b1⟩
  have i1 : IsDk AnyB w.heap.size v1 D0 S0 d0 := i1q.monoQ (fun _ _ => trivial)
  clear NW i1q
  go_wp2_with fail
  refine (RN _).mono ?_
  rintro e v2 ⟨vr, F0, rfl, r2q, hF0, b2⟩
  have r2 : IsRf AnyB v2 F0 vr d0 := r2q.monoQ (fun _ _ => trivial)
  obtain ⟨gs0, cs0, A0, c0, rfl⟩ := r2.two
  clear RN r2q
  have i2 := i1.below b2
  have bb2 := b1.trans (b2.mono b1.size)
  obtain ⟨v3, hv3⟩ : ∃ v3, v3 = v2.alloc (.cells #[.slice (some ⟨gs0, 0, none⟩) d0.safe.length cs0, .slice A0 d0.wn.length c0, .int .i64 d0.count, .bool d0.down, .int .i64 d0.am, .int .i64 d0.fm] 59) := ⟨_, rfl⟩
  have b3 : Below v2.heap.size v2 v3 := by rw [hv3]; exact (Below.refl _ _).alloc (Nat.le_refl _) _
  have hrow3 : v3.heap[v2.heap.size]? = some (.cells #[.slice (some ⟨gs0, 0, none⟩) d0.safe.length cs0, .slice A0 d0.wn.length c0, .int .i64 d0.count, .bool d0.down, .int .i64 d0.am, .int .i64 d0.fm] 59 (0, 0)) := by rw [hv3]; exact heap_alloc_new v2 _
  have pl0 : Pl w.heap.size v3 v2.heap.size D0 S0 F0 d0 gs0 cs0 c0 A0 := by
    refine ⟨i2.below b3, r2.below b3, hrow3, fun b hb hf => ?_, fun hb => ?_, fun hb => ?_, HFIT0.out, bb2.size⟩
    · have h1 := (i1.blocks hb).2.1
      have h2 := hF0 b hf
      omega
    · have h1 := (i2.blocks hb).2.1
      omega
    · obtain ⟨_, _, _, _, _, _, _, _, _, _, _, _, h5⟩ := r2
      have := (h5 _ hb).1
      omega
  have bb3 := bb2.trans (b3.mono bb2.size)
  have PL0 := hid pl0; have HV3 := hid hv3
  clear i1 i2 r2 hF0 hrow3 b1 b2 b3 bb2 pl0
  unfold rfA ptr at *
  go_wp2_with fail
  rw [← hv3]
  clear hv3
  generalize hPb : v2.heap.size = P at *
  clear hPb HV3
  go_loopw [5, 9] (fun dp i wr => ∃ (k D : Nat) (S F : Nat → Prop) (d : Dk) (gs cs c : Nat) (A : Option Addr), k ≤ min N 40 ∧ i = .int .i64 k ∧ dp = .pointer (some ⟨D, 0, none⟩) ∧ Pl w.heap.size wr P D S F d gs cs c A ∧ d.wn.length ≤ k ∧ d.now.length = 1 + p ∧ Below w.heap.size w wr) (fun _ i _ => min N 40 - (intOf i).toNat)
  case atStart => exact ⟨0, D0, S0, F0, d0, gs0, cs0, c0, A0, by omega, rfl, rfl, PL0.out, by rw [HN0.out.2]; exact Nat.le_refl _, HN0.out.1, bb3⟩
  case round =>
    obtain ⟨k, D, S, F, d, gs, cs, c1, A, hk, rfl, rfl, hpl, hwn, hnl, hB⟩ := hrel
    obtain ⟨wa, rfl⟩ : ∃ wa, wa = wr := ⟨_, rfl⟩
    by_cases hlt : k < min N 40
    · have hd1 : decide ((k : Int) < (N : Int)) = true := decide_eq_true (by omega)
      have hd2 : decide ((k : Int) < 40) = true := decide_eq_true (by omega)
      obtain ⟨bo, oo, rfl, q0, q1, q2, q3, q4, q5, hok⟩ := HR.out k (by rw [← HN.out]; omega)
      replace q0 := cell_below hB q0; replace q1 := cell_below hB q1; replace q2 := cell_below hB q2; replace q3 := cell_below hB q3; replace q4 := cell_below hB q4; replace q5 := cell_below hB q5
      obtain ⟨o, ho⟩ : ∃ o, o = ops.getD k op0 := ⟨_, rfl⟩
      rw [← ho] at q0 q1 q2 q3 q4 q5 hok
      clear ho
      obtain ⟨wb, hwb⟩ : ∃ wb, wb = wa.alloc (.cells #[.int .i64 o.k, .int .i64 o.n, .int .i64 o.sz, .int .i64 o.b, .slice o.ka o.ks.length o.kc, .int .u8 (o.s : Int)] 63) := ⟨_, rfl⟩
      have bu : Below wa.heap.size wa wb := by rw [hwb]; exact (Below.refl _ _).alloc (Nat.le_refl _) _
      have hro : wb.heap[wa.heap.size]? = some (.cells #[.int .i64 o.k, .int .i64 o.n, .int .i64 o.sz, .int .i64 o.b, .slice o.ka o.ks.length o.kc, .int .u8 (o.s : Int)] 63 (0, 0)) := by rw [hwb]; exact heap_alloc_new wa _
      have pl1 := hpl.below bu
      have bb1 := hB.trans (bu.mono hB.size)
      have hsz := hB.size
      have HFIT := hid hpl.fit
      have hP0 := heap_in hpl.row
      have HPL := hid hpl; have PL1 := hid pl1; have HRO := hid hro; have HWB := hid hwb; have BB1 := hid bb1; have HOK := hid hok
      clear hpl pl1 hro hB
      by_cases h7 : o.k = 7
      · as_aux_lemma =>
        have hk7 : (o.k == 7) = true := by simpa using h7
        have CP := Copy_is wb D PL1.out.i
        obtain ⟨y0, y1, y2, y3, y4, y5⟩ := six PL1.out.row
        have H7 := hid h7
        clear hwb y0 y1 y2 y3 y4 y5 hok h7
        unfold ptr at CP
        go_wp2_with fail
        rw [← HWB.out]
        refine CP.mono ?_
        rintro e wc ⟨E, S', rfl, hc, bc⟩
        have hcrow := (bc.block _ (heap_in PL1.out.row)).trans PL1.out.row
        obtain ⟨y0, y1, y2, y3, y4, y5⟩ := six hcrow
        have f2 := frow hcrow 2
        have pl2 := hid (PL1.out.copy bc hc BB1.out.size)
        have bb2 := hid (BB1.out.trans (bc.mono BB1.out.size))
        clear CP hcrow hc bc y0 y1 y3 y4 y5
        go_wp2_with fail
        refine ⟨⟨k + 1, E, S', F, d.copy, gs, cs, c1, A, by omega, by go_num, rfl, pl2.out, ?_, ?_, ?_⟩, by simp [intOf]; omega⟩
        · show d.wn.length ≤ k + 1
          omega
        · exact hnl
        · exact bb2.out.setCell (p := ⟨P, 2, none⟩) PL1.out.bP _
      · as_aux_lemma =>
        have hk7 : (o.k == 7) = false := by simpa using h7
        clear h7
        have hka : 0 < o.ks.length → ∀ x off, o.ka = some ⟨x, off, none⟩ → ¬ S x := by
          rintro hp x off e hS
          have h0 := rd_lt (e ▸ hok.rd) (bools_ne' hp)
          have := (HPL.out.i.blocks hS).1
          omega
        obtain ⟨fit', wn', now'⟩ := play_fit HFIT.out o hok.n (by omega)
        have DO := does_is wb D PL1.out.i PL1.out.r PL1.out.sep HFIT.out (by omega) o (hok.below BB1.out) hka
        have hd'n : (playD d o).now.length = 1 + p := now'.trans hnl
        have hd'w : (playD d o).wn.length ≤ k + 1 := by omega
        generalize playD d o = d' at *
        have PLY := fun e w2 (h : DoesP w.heap.size wb D S F d d' e w2) => PL1.out.play h fit'
        obtain ⟨y0, y1, y2, y3, y4, y5⟩ := six PL1.out.row
        rw [hwb] at y0 y1 y2 y3 y4 y5
        have HD'N := hid hd'n; have HD'W := hid hd'w; have FIT' := hid fit'; have HPLY := hid PLY
        clear hwb hka hok wn' now' hd'n hd'w fit' PLY
        unfold ptr Opr.val rfA at DO
        go_wp2_with fail
        rw [← HWB.out]
        refine DO.mono ?_
        rintro e wc hdo
        obtain ⟨S', F', gs', cs', c', A', rfl, ⟨_, hr2, _⟩, hpl2, k12⟩ := HPLY.out _ _ hdo
        obtain ⟨wg, hwg⟩ : ∃ wg, wg = ((((((wc.setCell ⟨P, 0, none⟩ (.slice (some ⟨gs', 0, none⟩) d'.safe.length cs')).setCell ⟨P, 1, none⟩ (.slice A' d'.wn.length c')).setCell ⟨P, 2, none⟩ (.int .i64 d'.count)).setCell ⟨P, 3, none⟩ (.bool d'.down)).setCell ⟨P, 4, none⟩ (.int .i64 d'.am)).setCell ⟨P, 5, none⟩ (.int .i64 d'.fm)) := ⟨_, rfl⟩
        have pl2 := hpl2 wg hwg
        have bb2 : Below w.heap.size w wg := by
          rw [hwg]
          exact below_set6 (kpt_below' BB1.out k12 BB1.out.size (fun j hj hs => by have := (PL1.out.i.blocks hs).1; omega)) PL1.out.bP
        clear DO y0 y1 y2 y3 y4 y5 hdo hpl2 k12
        obtain ⟨y0, y1, y2, y3, y4, y5⟩ := six hr2
        have f0 := frow hr2 0; have f1 := frow hr2 1; have f2 := frow hr2 2; have f3 := frow hr2 3; have f4 := frow hr2 4; have f5 := frow hr2 5
        have PE := Pending_is wg D pl2.i
        have PL2 := hid pl2; have HWG := hid hwg; have BB2 := hid bb2
        clear hr2 pl2 hwg bb2
        unfold ptr at PE
        go_wp2_with fail
        rw [← HWG.out]
        refine PE.mono ?_
        rintro e we ⟨A5, c5, rfl, o5, b5⟩
        have pl4 := PL2.out.below b5
        have bb4 := BB2.out.trans (b5.mono BB2.out.size)
        have WR := fun n => (Writes_is (we.drewN n) D (pl4.i.below (drewN_below2 (Below.refl _ _) n))).mono (R' := fun e w' => e = .returned (.int .i64 d'.count) ∧ w' = we.drewN n) (fun e w' h => ⟨h.1, h.2.symm⟩)
        have SZ := fun n => (Size_is (we.drewN n) D (pl4.i.below (drewN_below2 (Below.refl _ _) n))).mono (R' := fun e w' => e = .returned (.int .i64 (1 + (p : Int))) ∧ w' = we.drewN n) (fun e w' h => ⟨by rw [h.1, HD'N.out]; congr 2, h.2.symm⟩)
        have PL4 := hid pl4; have O5 := hid o5; have BB4 := hid bb4
        clear PE y0 y1 y2 y3 y4 y5 f0 f1 f2 f3 f4 f5 b5
        obtain ⟨y0, y1, y2, y3, y4, y5⟩ := six pl4.row
        obtain ⟨K, hK⟩ : ∃ K, K = d'.wn.length := ⟨_, rfl⟩
        have HK := hid hK
        have hK41 : K ≤ 41 := by have := HD'W.out; omega
        rw [← hK] at y1 ⊢
        clear pl4 o5 bb4 hK
        unfold ptr at WR SZ
        go_wp2_with fail
        go_quiet ((first | (go_at_call 28; exact Calls.quiet_of_same (WR _)) | (go_at_call 23; exact Calls.quiet_of_same (SZ _))))
        go_wp2_with fail
        have hdb : Below we.heap.size we (we.drewN nq) := drewN_below2 (Below.refl _ _) nq
        clear WR SZ y0 y1 y2 y3 y4 y5
        go_loopw [13] (fun i wr => ∃ q : Nat, q ≤ K ∧ i = .int .i64 q ∧ Below we.heap.size we wr) (fun i _ => K - (intOf i).toNat)
        case atStart => exact ⟨0, by omega, rfl, hdb⟩
        case round => as_aux_lemma =>
          obtain ⟨q, hq, rfl, hbq⟩ := hrel
          obtain ⟨wz, rfl⟩ : ∃ wz, wz = wr := ⟨_, rfl⟩
          have pl6 := PL4.out.below hbq
          by_cases hqK : q < K
          · obtain ⟨gs6, cs6, A6, c6, xs6, ys6, e6, _, r1, r2, r3, r4, _⟩ := pl6.r
            obtain ⟨_, hW⟩ := rf_cells FIT'.out.ok r1 r2 r3 r4
            simp only [rfA, Value.agg.injEq, Array.mk.injEq, List.cons.injEq, Value.slice.injEq, and_true, true_and] at e6
            obtain ⟨_, rfl, rfl⟩ := e6
            obtain ⟨ga, oa, rfl, hc⟩ := hW (by intro e; have := HK.out; rw [e] at this; simp at this; omega)
            obtain ⟨_, _, _, t1, _, _⟩ := hc q (by rw [← HK.out]; exact hqK)
            obtain ⟨g5, c5', e5, hg5, hg5'⟩ := own_slice' O5.out (by rw [← HK.out]; omega) (by decide)
            simp only [Value.slice.injEq, true_and] at e5
            obtain ⟨rfl, rfl⟩ := e5
            have t2 := (RdV.own O5.out).two q (.int .i64 (d'.wn.getD q 0 : Nat)) (by
              have : q < d'.wn.length := by rw [← HK.out]; exact hqK
              simp [I64s, List.getD_eq_getElem?_getD, List.getElem?_eq_getElem this])
            replace t2 := cell_below hbq t2
            obtain ⟨y0, y1, y2, y3, y4, y5⟩ := six pl6.row
            rw [← HK.out] at y1
            have hdq : Below we.heap.size we wz := hbq
            clear hc hW r1 r2 r3 r4 pl6 y0 y2 y3 y4 y5
            generalize d'.wn.getD q 0 = z at *
            go_wp2_with fail
            go_quiet (fail)
            go_wp2_with fail
            exact ⟨⟨q + 1, by omega, by go_num, drewN_below2 hdq _⟩, by simp [intOf]; omega⟩
          · obtain rfl : q = K := by omega
            have bb6 := BB4.out.trans (hbq.mono BB4.out.size)
            have PL6 := hid pl6; have BB6 := hid bb6
            clear pl6 bb6 hqK hdb
            go_wp2_with fail
            exact ⟨⟨k + 1, D, S', F', d', gs', cs', c', A', by omega, by go_num, rfl, PL6.out, HD'W.out, HD'N.out, BB6.out⟩, by simp [intOf]; omega⟩
    · by_cases hkN : k = N
      · as_aux_lemma =>
        have hd1 : decide ((k : Int) < (N : Int)) = false := decide_eq_false (by omega)
        clear hlt
        have HFIT := hid hpl.fit
        obtain ⟨M, hM⟩ : ∃ M, M = 4096 * d.now.length := ⟨_, rfl⟩
        obtain ⟨IMG, hIMG⟩ : ∃ I, I = d.now.flatten := ⟨_, rfl⟩
        have hIL : IMG.length = M := by rw [hIMG, hM]; exact flat_len hpl.fit.ok.n4
        have hfx := fit_crash hpl.fit [] (-1) 0
        have hxl : (d.crash [] (-1) 0).now.length = d.now.length := (crS_length d [] (-1) 0 _).trans hpl.fit.ok.len
        have hcx : (d.copy.crash [] (-1) 0).now = (d.crash [] (-1) 0).now := crS_copy d [] (-1) 0 _
        obtain ⟨IM2, hIM2⟩ : ∃ I, I = (d.crash [] (-1) 0).now.flatten := ⟨_, rfl⟩
        have hI2 : IM2.length = M := by rw [hIM2, hM, ← hxl]; exact flat_len hfx.ok.n4
        have CP := Copy_is wa D hpl.i
        have IM := fun W (h : IsDk AnyB w.heap.size W D S d) => Image_is W D h
        have RI := fun W (h : IsRf AnyB W F (rfA (.slice (some ⟨gs, 0, none⟩) d.safe.length cs) (.slice A d.wn.length c1) d) d) => RImage_is W h HFIT.out
        have CR := fun (W : World) (E B : Nat) (Sc : Nat → Prop) (h : IsDk AnyB B W E Sc d.copy) => (show Calls Try.prog 11 #[ptr E, .slice none 0 0, .int .i64 (-1), .int .u8 0] W fun e w' => e = .returned (.int .i64 0) ∧ Turn (Qp AnyB W) B W E Sc w' (d.copy.crash [] (-1) 0) from Crash_is W E h none 0 0 [] rfl (by decide) (RdV.nil _ _) (by simp) (-1) 0 (by decide))
        have IMX := fun (W : World) (E B : Nat) (Sc : Nat → Prop) (h : IsDk AnyB B W E Sc (d.copy.crash [] (-1) 0)) => Image_is W E h
        have RC := fun (W : World) (h : IsRf AnyB W F (rfA (.slice (some ⟨gs, 0, none⟩) d.safe.length cs) (.slice A d.wn.length c1) d) d) => (show Calls Try.prog 36 #[rfA (.slice (some ⟨gs, 0, none⟩) d.safe.length cs) (.slice A d.wn.length c1) d, .slice none 0 0, .int .i64 (-1), .int .u8 0] W fun e w' => ∃ v' F', e = .returned v' ∧ IsRf (Qp AnyB W) w' F' v' (d.crash [] (-1) 0) ∧ (∀ b, F' b → F b ∨ W.heap.size ≤ b) ∧ Below W.heap.size W w' from RCrash_is W h HFIT.out none 0 0 [] rfl (by decide) (RdV.nil _ _) (-1) 0 (by decide))
        have RIX := fun (W : World) (F' : Nat → Prop) (v : Value) (h : IsRf AnyB W F' v (d.crash [] (-1) 0)) => RImage_is W h hfx
        rw [hcx] at IMX
        simp only [hxl, ← hM, ← hIMG, ← hIM2] at IM RI IMX RIX
        have SB := fun (W : World) (X Y : Option Addr) (x y : Nat) (L : List UInt8) (hL : L.length = M) (h1 : RdB W X L) (h2 : RdB W Y L) => SameBytes_self W X Y x y M M L hL.symm hL.symm h1 h2
        have HIL := hid hIL; have HI2 := hid hI2
        clear hM hIMG hIL hfx hxl hcx hIM2 hI2 hnl hwn
        have HS := hid (fun b (hb : S b) => (hpl.i.blocks hb).2.1)
        have HF := hid hpl.ltF
        have hP := heap_in hpl.row
        have PL := hid hpl; have HB := hid hB
        have hsz := hB.size
        clear hpl hB
        unfold ptr at *
        go_wp2_with fail
        refine CP.mono ?_
        rintro e v1 ⟨E, Sc, rfl, hc1, b1⟩
        have pl1 := PL.out.below b1
        have b1d : Below v1.heap.size v1 v1.drew := below_drewN' (Below.refl _ _)
        have pl1d := pl1.below b1d
        have hc1d := hc1.below b1d
        have hz1 := b1.size
        have HSc := hid (fun b (hb : Sc b) => (hc1.blocks hb).1)
        have NSc := hid (fun b (hb : Sc b) => (hc1.blocks hb).2.1)
        have sv : v1.cell? ⟨P, 0, none⟩ = some (.slice (some ⟨gs, 0, none⟩) d.safe.length cs) ∧ v1.cell? ⟨P, 1, none⟩ = some (.slice A d.wn.length c1) ∧ v1.cell? ⟨P, 2, none⟩ = some (.int .i64 d.count) ∧ v1.cell? ⟨P, 3, none⟩ = some (.bool d.down) ∧ v1.cell? ⟨P, 4, none⟩ = some (.int .i64 d.am) ∧ v1.cell? ⟨P, 5, none⟩ = some (.int .i64 d.fm) := pl1.six
        have svd : v1.drew.cell? ⟨P, 0, none⟩ = some (.slice (some ⟨gs, 0, none⟩) d.safe.length cs) ∧ v1.drew.cell? ⟨P, 1, none⟩ = some (.slice A d.wn.length c1) ∧ v1.drew.cell? ⟨P, 2, none⟩ = some (.int .i64 d.count) ∧ v1.drew.cell? ⟨P, 3, none⟩ = some (.bool d.down) ∧ v1.drew.cell? ⟨P, 4, none⟩ = some (.int .i64 d.am) ∧ v1.drew.cell? ⟨P, 5, none⟩ = some (.int .i64 d.fm) := pl1d.six
        have PL1D := hid pl1d; have HC1D := hid hc1d; have HB1 := hid (HB.out.trans (b1.mono HB.out.size))
        clear CP pl1 pl1d hc1 hc1d b1 b1d
        unfold rfA at *
        go_wp2_with fail
        go_region_held3 (fun W1 => W1.cell? ⟨P, 0, none⟩ = some (.slice (some ⟨gs, 0, none⟩) d.safe.length cs) ∧ W1.cell? ⟨P, 1, none⟩ = some (.slice A d.wn.length c1) ∧ W1.cell? ⟨P, 2, none⟩ = some (.int .i64 d.count) ∧ W1.cell? ⟨P, 3, none⟩ = some (.bool d.down) ∧ W1.cell? ⟨P, 4, none⟩ = some (.int .i64 d.am) ∧ W1.cell? ⟨P, 5, none⟩ = some (.int .i64 d.fm))
          (first | (with_reducible exact s7) | (with_reducible exact s6) | (with_reducible exact s5) | (with_reducible exact s4) | (with_reducible exact s3) | (with_reducible exact s2) | (with_reducible exact svd) | (with_reducible exact sv))
          (first
            | (go_at_call_of 13 (A5); refine (SB v7 A5 A7 _ _ IM2 HI2.out (RdV.below (RdV.below G5.out b6) b7) G7.out).mono ?_; rintro e v8 ⟨rfl, rfl⟩)
            | (go_at_call_of 35 (vr6); refine (RIX v6 _ _ HR6.out).mono ?_; rintro e v7 ⟨A7, q7, rfl, g7, b7⟩; have pl7 := hid (PL6.out.below b7); have s7 := pl7.out.six; have G7 := hid g7.rd; have BB7 := hid (BB6.out.trans (b7.mono BB6.out.size)); clear g7)
            | (go_at_call_of 36 (gs); refine (RC v5 PL5.out.r).mono ?_; rintro e v6 ⟨vr6, F6, rfl, hr6, _, b6⟩; have PL6 := hid (PL5.out.below b6); have s6 := PL6.out.six; have HR6 := hid (hr6.monoQ (Q' := AnyB) (fun _ _ => trivial)); have BB6 := hid (BB5.out.trans (b6.mono BB5.out.size)); clear hr6)
            | (go_at_call_of 18 (E); refine (IMX v4 _ _ _ X4.out).mono ?_; rintro e v5 ⟨A5, q5, rfl, g5, b5⟩; have PL5 := hid (PL4.out.below b5); have s5 := PL5.out.six; have G5 := hid g5.rd; have BB5 := hid (BB4.out.trans (b5.mono BB4.out.size)); clear g5)
            | (go_at_call_of 11 (E); refine (CR v3 _ _ _ HC3.out).mono ?_; rintro e v4 ⟨rfl, t4⟩; obtain ⟨Sc4, x4, k4, z4⟩ := t4; have X4 := hid (x4.monoQ (Q' := AnyB) (fun _ _ => trivial)); have PL4 := hid (PL3.out.kpt k4 HC3.out.nou wa.heap.size HSc.out HS.out HF.out hP); have s4 := PL4.out.six; have BB4 := hid (kpt_below' BB3.out k4 BB3.out.size (fun j hj hs => by have := HSc.out j hs; omega)); clear x4 k4 z4)
            | (go_at_call_of 13 (A2); refine (SB v3 A2 A3 _ _ IMG HIL.out (RdV.below G2.out b3) G3.out).mono ?_; rintro e v8 ⟨rfl, rfl⟩)
            | (go_at_call_of 35 (gs); refine (RI v2 PL2.out.r).mono ?_; rintro e v3 ⟨A3, q3, rfl, g3, b3⟩; have PL3 := hid (PL2.out.below b3); have s3 := PL3.out.six; have G3 := hid g3.rd; have HC3 := hid (HC2.out.below b3); have BB3 := hid (BB2.out.trans (b3.mono BB2.out.size)); clear g3)
            | (go_at_call_of 18 (D); refine (IM _ PL1D.out.i).mono ?_; rintro e v2 ⟨A2, q2, rfl, g2, b2⟩; have PL2 := hid (PL1D.out.below b2); have s2 := PL2.out.six; have G2 := hid g2.rd; have HC2 := hid (HC1D.out.below b2); have BB2 := hid ((below_drewN' HB1.out).trans (b2.mono (below_drewN' HB1.out).size)); clear g2))
        have PL7D := hid (pl7.out.below (below_drewN' (Below.refl _ _)))
        have s8 := pl7.out.six
        have s8d := PL7D.out.six
        have HB7 := hid (below_drewN' BB7.out)
        clear sv svd s2 s3 s4 s5 s6 s7 pl7 PL6 PL5 PL4 PL3 PL2 PL1D BB7 BB6 BB5 BB4 BB3 BB2 HB1 HB HC1D HC2 HC3 X4 HR6 G2 G3 G5 G7 b2 b3 b5 b6 b7 RIX RC CR IMX
        go_wp2_with fail
        go_region_held3 (fun W1 => W1.cell? ⟨P, 0, none⟩ = some (.slice (some ⟨gs, 0, none⟩) d.safe.length cs) ∧ W1.cell? ⟨P, 1, none⟩ = some (.slice A d.wn.length c1) ∧ W1.cell? ⟨P, 2, none⟩ = some (.int .i64 d.count) ∧ W1.cell? ⟨P, 3, none⟩ = some (.bool d.down) ∧ W1.cell? ⟨P, 4, none⟩ = some (.int .i64 d.am) ∧ W1.cell? ⟨P, 5, none⟩ = some (.int .i64 d.fm))
          (first | (with_reducible exact s11) | (with_reducible exact s10) | (with_reducible exact s9) | (with_reducible exact s8d) | (with_reducible exact s8))
          (first
            | (go_at_call 14; refine (AW _).mono ?_; rintro e v11 ⟨rfl, b11⟩; have PL11 := hid (PL10.out.below b11); have s11 := PL11.out.six; have BB11 := hid (BB10.out.trans (b11.mono BB10.out.size)))
            | (go_at_call_of 13 (A9); refine (SB v10 A9 A10 _ _ IMG HIL.out (RdV.below G9.out b10) G10.out).mono ?_; rintro e v8 ⟨rfl, rfl⟩)
            | (go_at_call_of 35 (gs); refine (RI v9 PL9.out.r).mono ?_; rintro e v10 ⟨A10, q10, rfl, g10, b10⟩; have PL10 := hid (PL9.out.below b10); have s10 := PL10.out.six; have G10 := hid g10.rd; have BB10 := hid (BB9.out.trans (b10.mono BB9.out.size)); clear g10)
            | (go_at_call_of 18 (D); refine (IM _ PL7D.out.i).mono ?_; rintro e v9 ⟨A9, q9, rfl, g9, b9⟩; have PL9 := hid (PL7D.out.below b9); have s9 := PL9.out.six; have G9 := hid g9.rd; have BB9 := hid (HB7.out.trans (b9.mono HB7.out.size)); clear g9))
        go_wp2
        go_ret
        exact ⟨rfl, BB11.out⟩
      · as_aux_lemma =>
        have hd1 : decide ((k : Int) < (N : Int)) = true := decide_eq_true (by omega)
        have hd2 : decide ((k : Int) < 40) = false := decide_eq_false (by omega)
        clear hlt
        have HFIT := hid hpl.fit
        obtain ⟨M, hM⟩ : ∃ M, M = 4096 * d.now.length := ⟨_, rfl⟩
        obtain ⟨IMG, hIMG⟩ : ∃ I, I = d.now.flatten := ⟨_, rfl⟩
        have hIL : IMG.length = M := by rw [hIMG, hM]; exact flat_len hpl.fit.ok.n4
        have hfx := fit_crash hpl.fit [] (-1) 0
        have hxl : (d.crash [] (-1) 0).now.length = d.now.length := (crS_length d [] (-1) 0 _).trans hpl.fit.ok.len
        have hcx : (d.copy.crash [] (-1) 0).now = (d.crash [] (-1) 0).now := crS_copy d [] (-1) 0 _
        obtain ⟨IM2, hIM2⟩ : ∃ I, I = (d.crash [] (-1) 0).now.flatten := ⟨_, rfl⟩
        have hI2 : IM2.length = M := by rw [hIM2, hM, ← hxl]; exact flat_len hfx.ok.n4
        have CP := Copy_is wa D hpl.i
        have IM := fun W (h : IsDk AnyB w.heap.size W D S d) => Image_is W D h
        have RI := fun W (h : IsRf AnyB W F (rfA (.slice (some ⟨gs, 0, none⟩) d.safe.length cs) (.slice A d.wn.length c1) d) d) => RImage_is W h HFIT.out
        have CR := fun (W : World) (E B : Nat) (Sc : Nat → Prop) (h : IsDk AnyB B W E Sc d.copy) => (show Calls Try.prog 11 #[ptr E, .slice none 0 0, .int .i64 (-1), .int .u8 0] W fun e w' => e = .returned (.int .i64 0) ∧ Turn (Qp AnyB W) B W E Sc w' (d.copy.crash [] (-1) 0) from Crash_is W E h none 0 0 [] rfl (by decide) (RdV.nil _ _) (by simp) (-1) 0 (by decide))
        have IMX := fun (W : World) (E B : Nat) (Sc : Nat → Prop) (h : IsDk AnyB B W E Sc (d.copy.crash [] (-1) 0)) => Image_is W E h
        have RC := fun (W : World) (h : IsRf AnyB W F (rfA (.slice (some ⟨gs, 0, none⟩) d.safe.length cs) (.slice A d.wn.length c1) d) d) => (show Calls Try.prog 36 #[rfA (.slice (some ⟨gs, 0, none⟩) d.safe.length cs) (.slice A d.wn.length c1) d, .slice none 0 0, .int .i64 (-1), .int .u8 0] W fun e w' => ∃ v' F', e = .returned v' ∧ IsRf (Qp AnyB W) w' F' v' (d.crash [] (-1) 0) ∧ (∀ b, F' b → F b ∨ W.heap.size ≤ b) ∧ Below W.heap.size W w' from RCrash_is W h HFIT.out none 0 0 [] rfl (by decide) (RdV.nil _ _) (-1) 0 (by decide))
        have RIX := fun (W : World) (F' : Nat → Prop) (v : Value) (h : IsRf AnyB W F' v (d.crash [] (-1) 0)) => RImage_is W h hfx
        rw [hcx] at IMX
        simp only [hxl, ← hM, ← hIMG, ← hIM2] at IM RI IMX RIX
        have SB := fun (W : World) (X Y : Option Addr) (x y : Nat) (L : List UInt8) (hL : L.length = M) (h1 : RdB W X L) (h2 : RdB W Y L) => SameBytes_self W X Y x y M M L hL.symm hL.symm h1 h2
        have HIL := hid hIL; have HI2 := hid hI2
        clear hM hIMG hIL hfx hxl hcx hIM2 hI2 hnl hwn
        have HS := hid (fun b (hb : S b) => (hpl.i.blocks hb).2.1)
        have HF := hid hpl.ltF
        have hP := heap_in hpl.row
        have PL := hid hpl; have HB := hid hB
        have hsz := hB.size
        clear hpl hB
        unfold ptr at *
        go_wp2_with fail
        refine CP.mono ?_
        rintro e v1 ⟨E, Sc, rfl, hc1, b1⟩
        have pl1 := PL.out.below b1
        have b1d : Below v1.heap.size v1 v1.drew := below_drewN' (Below.refl _ _)
        have pl1d := pl1.below b1d
        have hc1d := hc1.below b1d
        have hz1 := b1.size
        have HSc := hid (fun b (hb : Sc b) => (hc1.blocks hb).1)
        have NSc := hid (fun b (hb : Sc b) => (hc1.blocks hb).2.1)
        have sv : v1.cell? ⟨P, 0, none⟩ = some (.slice (some ⟨gs, 0, none⟩) d.safe.length cs) ∧ v1.cell? ⟨P, 1, none⟩ = some (.slice A d.wn.length c1) ∧ v1.cell? ⟨P, 2, none⟩ = some (.int .i64 d.count) ∧ v1.cell? ⟨P, 3, none⟩ = some (.bool d.down) ∧ v1.cell? ⟨P, 4, none⟩ = some (.int .i64 d.am) ∧ v1.cell? ⟨P, 5, none⟩ = some (.int .i64 d.fm) := pl1.six
        have svd : v1.drew.cell? ⟨P, 0, none⟩ = some (.slice (some ⟨gs, 0, none⟩) d.safe.length cs) ∧ v1.drew.cell? ⟨P, 1, none⟩ = some (.slice A d.wn.length c1) ∧ v1.drew.cell? ⟨P, 2, none⟩ = some (.int .i64 d.count) ∧ v1.drew.cell? ⟨P, 3, none⟩ = some (.bool d.down) ∧ v1.drew.cell? ⟨P, 4, none⟩ = some (.int .i64 d.am) ∧ v1.drew.cell? ⟨P, 5, none⟩ = some (.int .i64 d.fm) := pl1d.six
        have PL1D := hid pl1d; have HC1D := hid hc1d; have HB1 := hid (HB.out.trans (b1.mono HB.out.size))
        clear CP pl1 pl1d hc1 hc1d b1 b1d
        unfold rfA at *
        go_wp2_with fail
        go_region_held3 (fun W1 => W1.cell? ⟨P, 0, none⟩ = some (.slice (some ⟨gs, 0, none⟩) d.safe.length cs) ∧ W1.cell? ⟨P, 1, none⟩ = some (.slice A d.wn.length c1) ∧ W1.cell? ⟨P, 2, none⟩ = some (.int .i64 d.count) ∧ W1.cell? ⟨P, 3, none⟩ = some (.bool d.down) ∧ W1.cell? ⟨P, 4, none⟩ = some (.int .i64 d.am) ∧ W1.cell? ⟨P, 5, none⟩ = some (.int .i64 d.fm))
          (first | (with_reducible exact s7) | (with_reducible exact s6) | (with_reducible exact s5) | (with_reducible exact s4) | (with_reducible exact s3) | (with_reducible exact s2) | (with_reducible exact svd) | (with_reducible exact sv))
          (first
            | (go_at_call_of 13 (A5); refine (SB v7 A5 A7 _ _ IM2 HI2.out (RdV.below (RdV.below G5.out b6) b7) G7.out).mono ?_; rintro e v8 ⟨rfl, rfl⟩)
            | (go_at_call_of 35 (vr6); refine (RIX v6 _ _ HR6.out).mono ?_; rintro e v7 ⟨A7, q7, rfl, g7, b7⟩; have pl7 := hid (PL6.out.below b7); have s7 := pl7.out.six; have G7 := hid g7.rd; have BB7 := hid (BB6.out.trans (b7.mono BB6.out.size)); clear g7)
            | (go_at_call_of 36 (gs); refine (RC v5 PL5.out.r).mono ?_; rintro e v6 ⟨vr6, F6, rfl, hr6, _, b6⟩; have PL6 := hid (PL5.out.below b6); have s6 := PL6.out.six; have HR6 := hid (hr6.monoQ (Q' := AnyB) (fun _ _ => trivial)); have BB6 := hid (BB5.out.trans (b6.mono BB5.out.size)); clear hr6)
            | (go_at_call_of 18 (E); refine (IMX v4 _ _ _ X4.out).mono ?_; rintro e v5 ⟨A5, q5, rfl, g5, b5⟩; have PL5 := hid (PL4.out.below b5); have s5 := PL5.out.six; have G5 := hid g5.rd; have BB5 := hid (BB4.out.trans (b5.mono BB4.out.size)); clear g5)
            | (go_at_call_of 11 (E); refine (CR v3 _ _ _ HC3.out).mono ?_; rintro e v4 ⟨rfl, t4⟩; obtain ⟨Sc4, x4, k4, z4⟩ := t4; have X4 := hid (x4.monoQ (Q' := AnyB) (fun _ _ => trivial)); have PL4 := hid (PL3.out.kpt k4 HC3.out.nou wa.heap.size HSc.out HS.out HF.out hP); have s4 := PL4.out.six; have BB4 := hid (kpt_below' BB3.out k4 BB3.out.size (fun j hj hs => by have := HSc.out j hs; omega)); clear x4 k4 z4)
            | (go_at_call_of 13 (A2); refine (SB v3 A2 A3 _ _ IMG HIL.out (RdV.below G2.out b3) G3.out).mono ?_; rintro e v8 ⟨rfl, rfl⟩)
            | (go_at_call_of 35 (gs); refine (RI v2 PL2.out.r).mono ?_; rintro e v3 ⟨A3, q3, rfl, g3, b3⟩; have PL3 := hid (PL2.out.below b3); have s3 := PL3.out.six; have G3 := hid g3.rd; have HC3 := hid (HC2.out.below b3); have BB3 := hid (BB2.out.trans (b3.mono BB2.out.size)); clear g3)
            | (go_at_call_of 18 (D); refine (IM _ PL1D.out.i).mono ?_; rintro e v2 ⟨A2, q2, rfl, g2, b2⟩; have PL2 := hid (PL1D.out.below b2); have s2 := PL2.out.six; have G2 := hid g2.rd; have HC2 := hid (HC1D.out.below b2); have BB2 := hid ((below_drewN' HB1.out).trans (b2.mono (below_drewN' HB1.out).size)); clear g2))
        have PL7D := hid (pl7.out.below (below_drewN' (Below.refl _ _)))
        have s8 := pl7.out.six
        have s8d := PL7D.out.six
        have HB7 := hid (below_drewN' BB7.out)
        clear sv svd s2 s3 s4 s5 s6 s7 pl7 PL6 PL5 PL4 PL3 PL2 PL1D BB7 BB6 BB5 BB4 BB3 BB2 HB1 HB HC1D HC2 HC3 X4 HR6 G2 G3 G5 G7 b2 b3 b5 b6 b7 RIX RC CR IMX
        go_wp2_with fail
        go_region_held3 (fun W1 => W1.cell? ⟨P, 0, none⟩ = some (.slice (some ⟨gs, 0, none⟩) d.safe.length cs) ∧ W1.cell? ⟨P, 1, none⟩ = some (.slice A d.wn.length c1) ∧ W1.cell? ⟨P, 2, none⟩ = some (.int .i64 d.count) ∧ W1.cell? ⟨P, 3, none⟩ = some (.bool d.down) ∧ W1.cell? ⟨P, 4, none⟩ = some (.int .i64 d.am) ∧ W1.cell? ⟨P, 5, none⟩ = some (.int .i64 d.fm))
          (first | (with_reducible exact s11) | (with_reducible exact s10) | (with_reducible exact s9) | (with_reducible exact s8d) | (with_reducible exact s8))
          (first
            | (go_at_call 14; refine (AW _).mono ?_; rintro e v11 ⟨rfl, b11⟩; have PL11 := hid (PL10.out.below b11); have s11 := PL11.out.six; have BB11 := hid (BB10.out.trans (b11.mono BB10.out.size)))
            | (go_at_call_of 13 (A9); refine (SB v10 A9 A10 _ _ IMG HIL.out (RdV.below G9.out b10) G10.out).mono ?_; rintro e v8 ⟨rfl, rfl⟩)
            | (go_at_call_of 35 (gs); refine (RI v9 PL9.out.r).mono ?_; rintro e v10 ⟨A10, q10, rfl, g10, b10⟩; have PL10 := hid (PL9.out.below b10); have s10 := PL10.out.six; have G10 := hid g10.rd; have BB10 := hid (BB9.out.trans (b10.mono BB9.out.size)); clear g10)
            | (go_at_call_of 18 (D); refine (IM _ PL7D.out.i).mono ?_; rintro e v9 ⟨A9, q9, rfl, g9, b9⟩; have PL9 := hid (PL7D.out.below b9); have s9 := PL9.out.six; have G9 := hid g9.rd; have BB9 := hid (HB7.out.trans (b9.mono HB7.out.size)); clear g9))
        go_wp2
        go_ret
        exact ⟨rfl, BB11.out⟩
end Go.Proofs.Ytddejjmebokgiaa
