/- The document's disk: Crash. -/
import Derived.Test.YtddejjmebokgiaaRfF
namespace Go.Proofs.Ytddejjmebokgiaa
open Go.RowKit
variable {Q : Nat → Prop}
set_option maxHeartbeats 3200000
set_option maxRecDepth 100000
set_option linter.unusedVariables false
set_option linter.unusedSimpArgs false

theorem fit_crash {d : Dk} (h : d.fit) (ks : List Bool) (at_ : Int) (s : Nat) : (d.crash ks at_ s).fit := by
  refine ⟨h.ok.crash ks at_ s, ?_, fun e => by simp [Dk.crash] at e, fun e => by simp [Dk.crash] at e⟩
  intro n hn
  have e : (d.crash ks at_ s).wn.length = 0 := rfl
  rw [e]
  simp [sncT, Dk.crash]
/-- Torn behind k bytes. -/
def tornK (old fresh : List UInt8) (s k : Nat) : List UInt8 := (List.range 4096).map fun j => if j < k ∧ sb s (j / 512) = true then bat fresh j else bat old j
theorem tornK_zero {old fresh : List UInt8} {s : Nat} (h : old.length = 4096) : tornK old fresh s 0 = old := by
  have e : tornK old fresh s 0 = tornTo old fresh s 0 := by
    unfold tornK tornTo
    apply List.map_congr_left
    intro k hk
    simp
  rw [e, tornTo_zero _ _ _ h]
theorem tornK_all (old fresh : List UInt8) (s : Nat) : tornK old fresh s 4096 = tornB old fresh s := by
  unfold tornK tornB tornTo
  apply List.map_congr_left
  intro k hk
  have : k < 4096 := List.mem_range.1 hk
  have h2 : k < 512 * 8 := this
  simp [this, h2]
theorem tornK_length (old fresh : List UInt8) (s k : Nat) : (tornK old fresh s k).length = 4096 := by simp only [tornK, List.length_map, List.length_range]
theorem tornK_skip (a b : List UInt8) (s k : Nat) (h : sb s (k / 512) = false) : tornK a b s (k + 1) = tornK a b s k := by
  unfold tornK
  apply List.map_congr_left
  intro j hj
  by_cases e : j = k
  · subst e; simp [h]
  · have : (j < k + 1) ↔ (j < k) := by omega
    simp only [this]
theorem tornK_take (a b : List UInt8) (s k : Nat) (hk : k < 4096) (h : sb s (k / 512) = true) : tornK a b s (k + 1) = (tornK a b s k).set k (bat b k) := by
  apply List.ext_getElem (by simp only [tornK_length, List.length_set])
  intro j h1 h2
  rw [List.getElem_set]
  by_cases e : k = j
  · subst e; simp [tornK, h]
  · have : (j < k + 1) ↔ (j < k) := by omega
    simp [tornK, e, this]
theorem sb_shl (s q : Nat) (hs : s < 256) (hq : q < 8) : (bits BinOp.and IntKind.u8 (s : Int) ((2 : Int) ^ q % 256) != 0) = sb s q := by
  have h : ∀ s, s < 256 → ∀ q, q < 8 → (bits BinOp.and IntKind.u8 ((s : Nat) : Int) ((2 : Int) ^ q % 256) != 0) = sb s q := by decide +kernel
  exact h s hs q hq
theorem row_store {w : World} {base g n c : Nat} {xs : List Value} {L : List (List UInt8)} {u : Value} {l : List UInt8} (ho : w.ownsRow base 30 1 (.slice (some ⟨g, 0, none⟩) n c) n xs) (hd : Dats Q w xs L) (hu : Dat Q w u l) (i : Nat) :
    (w.setCell ⟨g, i, none⟩ u).ownsRow base 30 1 (.slice (some ⟨g, 0, none⟩) n c) n (xs.set i u) ∧ Dats Q (w.setCell ⟨g, i, none⟩ u) (xs.set i u) (L.set i l) := by
  have hno : ∀ b, b = g → ¬ U8 w b := by rintro b rfl; exact own_nou ho (by decide) rfl
  exact ⟨(World.ownsRow.stored ho i u).1, (hd.kpt (kpt_one u) hno).set i (hu.kpt (kpt_one u) hno)⟩
theorem row_cell {w : World} {base g n c : Nat} {xs : List Value} {L : List (List UInt8)} (ho : w.ownsRow base 30 1 (.slice (some ⟨g, 0, none⟩) n c) n xs) (hd : Dats Q w xs L) (h4 : ∀ l ∈ L, l.length = 4096) (i : Nat) (hi : i < L.length) :
    w.frozen? ⟨g, i, none⟩ = false ∧ ∃ b o cc, w.cell? ⟨g, i, none⟩ = some (.slice (some ⟨b, o, none⟩) 4096 cc) ∧ RdB w (some ⟨b, o, none⟩) (L.getD i []) ∧ (L.getD i []).length = 4096 := by
  obtain ⟨x, hx, hdat⟩ := hd.at_ hi
  have hc := ho.cells (g := g) rfl i _ hx
  rw [add_plain, Nat.zero_add] at hc
  have hl : L[i].length = 4096 := h4 _ (List.getElem_mem hi)
  have hg : L.getD i [] = L[i] := by rw [List.getD_eq_getElem?_getD, List.getElem?_eq_getElem hi]; rfl
  obtain ⟨b, off, cc, rfl, h1, _⟩ := hdat.rd
  rw [hl] at hc
  exact ⟨World.ownsRow.frozenAt ho i, b, off, cc, hc, by rw [hg]; exact h1, by rw [hg]; exact hl⟩
theorem RCrash_is (w : World) {F : Nat → Prop} {v : Value} {d : Dk} (h : IsRf Q w F v d) (hf : d.fit) (a : Option Addr) (ck N : Nat) (ks : List Bool) (hN : N = ks.length) (hks : ks.length ≤ 200000000000000) (hr : RdV w a (Bools ks)) (at_ : Int) (s : Nat) (hs : s < 256) :
    Calls Try.prog 36 #[v, .slice a N ck, .int .i64 at_, .int .u8 (s : Int)] w fun e w' => ∃ v' F', e = .returned v' ∧ IsRf (Qp Q w) w' F' v' (d.crash ks at_ s) ∧ (∀ b, F' b → F b ∨ w.heap.size ≤ b) ∧ Below w.heap.size w w' := by
  have hl := hf.ok.len
  have hm := hf.ok.max
  have hpos := hf.ok.pos
  have hwm := hf.ok.wmax
  have ho := hf.ok
  obtain ⟨gs, cs, A, c, xs, ys, e, hF, h1, h2, h3, h4, h5⟩ := h
  subst e
  have h4s := crS_4 ho ks at_ s
  have hls := crS_length d ks at_ s
  have hwin : ∀ j, j < d.wn.length → d.wn.getD j 0 < d.safe.length := by
    intro j hj
    rw [List.getD_eq_getElem?_getD, List.getElem?_eq_getElem hj, hl]
    exact ho.win _ (List.getElem_mem hj)
  have hw4 : ∀ j, j < d.wn.length → (d.wd.getD j []).length = 4096 := by
    intro j hj
    have : j < d.wd.length := by have := ho.wlen; omega
    rw [List.getD_eq_getElem?_getD, List.getElem?_eq_getElem this]
    exact ho.w4 _ (List.getElem_mem this)
  have HWIN := hid hwin; have HW4 := hid hw4; have H4S := hid h4s; have HLS := hid hls; have HO := hid ho; have HF := hid hF; have H5 := hid h5
  have hMpos : 0 < d.safe.length := by omega
  have hM512 : d.safe.length ≤ 512 := by omega
  have hxl : xs.length = d.safe.length * 1 := by rw [h3.1, Nat.mul_one]
  have hox := one_dats h3
  clear hwin hw4 h4s hls ho hF h5 hf hl hm hpos
  obtain ⟨w1, hw1⟩ : ∃ w1, w1 = (w.alloc (.cells #[.slice (some ⟨gs, 0, none⟩) d.safe.length cs, .slice A d.wn.length c, .int .i64 d.count, .bool d.down, .int .i64 d.am, .int .i64 d.fm] 59)).alloc (.cells #[.slice none 0 0, .slice none 0 0, .int .i64 0, .bool false, .int .i64 0, .int .i64 0] 59) := ⟨_, rfl⟩
  have hbw : Below w.heap.size w w1 := by rw [hw1]; exact ((Below.refl _ _).alloc (Nat.le_refl _) _).alloc (by simp) _
  have hsz : w1.heap.size = w.heap.size + 2 := by rw [hw1]; simp
  have row1 : w1.heap[w.heap.size + 1]? = some (.cells #[.slice none 0 0, .slice none 0 0, .int .i64 0, .bool false, .int .i64 0, .int .i64 0] 59 (0, 0)) := by rw [hw1]; exact row_two _ _ _
  have row0 : w1.heap[w.heap.size]? = some (.cells #[.slice (some ⟨gs, 0, none⟩) d.safe.length cs, .slice A d.wn.length c, .int .i64 d.count, .bool d.down, .int .i64 d.am, .int .i64 d.fm] 59 (0, 0)) := by rw [hw1]; exact (Below.heap_alloc _ _ _ (by simp)).trans (heap_alloc_new w _)
  obtain ⟨-, hcw⟩ := rf_cells HO.out (h1.below hbw) (h2.below hbw) (h3.below hbw) (h4.below hbw)
  have HCW := hid hcw
  have p0 := (six row0).1
  have p0' := p0
  rw [hw1] at p0'
  have h1' := h1.below hbw
  have h3w := h3.below hbw
  rw [hw1] at h1'
  have b11 : Below w1.heap.size w1 ((w.alloc (.cells #[.slice (some ⟨gs, 0, none⟩) d.safe.length cs, .slice A d.wn.length c, .int .i64 d.count, .bool d.down, .int .i64 d.am, .int .i64 d.fm] 59)).alloc (.cells #[.slice none 0 0, .slice none 0 0, .int .i64 0, .bool false, .int .i64 0, .int .i64 0] 59)) := by rw [← hw1]; exact Below.refl _ _
  have HW1 := hid hw1; have HSZ := hid hsz
  clear hw1 hsz hcw
  unfold rfA at *
  generalize hNN : d.safe.length = M at *
  generalize hKK : d.wn.length = K at *
  have HKK := hid hKK; have HNN := hid hNN; have HN := hid hN
  clear hNN hKK hN
  go_enter Try.func36, Try.ntmps36
  go_wp2_with (at_builtin; refine app_own rfl (.tmp 14) (.tmp 16) 33 30 (.slice none 0 0) 1 24 rfl Try.underlying33 info_L3 rfl (by decide) (by decide) w1.heap.size (.slice none 0 0) 0 [] rfl ⟨rfl, .inl ⟨rfl, rfl⟩⟩ (some ⟨gs, 0, none⟩) M cs xs rfl hxl h1' hox (by omega) w1 b11 b11.size ?_; intro A9 c9 w9 ho9 b9 _ _)
  simp only [Nat.zero_add, List.nil_append] at ho9 ⊢
  obtain ⟨g9, c9', he, hg9, hg9'⟩ := own_slice' ho9 hMpos (by decide)
  simp only [Value.slice.injEq, true_and] at he
  obtain ⟨rfl, rfl⟩ := he
  clear p0' h1' b11 p0
  have hd9 : Dats (Qp Q w) w9 xs (d.crS ks at_ s 0) := (h3w.below b9).monoQ (fun b hb => .inl hb)
  go_loopw [10] (fun i wr => ∃ (j : Nat) (zs : List Value), j ≤ K ∧ i = .int .i64 j ∧ wr.ownsRow w1.heap.size 30 1 (.slice (some ⟨g9, 0, none⟩) M c9) M zs ∧ Dats (Qp Q w) wr zs (d.crS ks at_ s j) ∧ Below w1.heap.size w1 wr) (fun i _ => K - (intOf i).toNat)
  case atStart => exact ⟨0, xs, by omega, rfl, ho9, hd9, b9⟩
  case round =>
    clear hd9 ho9 b9 hg9'
    obtain ⟨j, zs, hj, rfl, ho, hd, hb⟩ := hrel
    obtain ⟨u, rfl⟩ : ∃ u, u = wr := ⟨_, rfl⟩
    have ru0 := (hb.block _ (heap_in row0)).trans row0
    have hbs := hb.size
    have q1 := (six ru0).2.1
    by_cases hlt : j < K
    · have hne : d.wn ≠ [] := by intro e; have := HKK.out; rw [e] at this; simp at this; omega
      obtain ⟨ga, oa, rfl, hc⟩ := HCW.out hne
      obtain ⟨bd, od, cd, t1, t2, t3⟩ := hc j hlt
      have hm := HWIN.out j hlt
      have hm4 := HW4.out j hlt
      obtain ⟨m, hmm⟩ : ∃ m, m = d.wn.getD j 0 := ⟨_, rfl⟩
      obtain ⟨fr, hfr⟩ : ∃ fr, fr = d.wd.getD j [] := ⟨_, rfl⟩
      rw [← hmm] at t1 hm
      rw [← hfr] at t3 hm4
      have y1 := cell_below hb t1
      have y2 := cell_below hb t2
      have t3u := t3.below hb
      obtain ⟨u1, hu1⟩ : ∃ u1, u1 = u.alloc (.cells #[.int .i64 (m : Int), .slice (some ⟨bd, od, none⟩) 4096 cd] 67) := ⟨_, rfl⟩
      have bu1 : Below u.heap.size u u1 := by rw [hu1]; exact (Below.refl _ _).alloc (Nat.le_refl _) _
      have rz : u1.heap[u.heap.size]? = some (.cells #[.int .i64 (m : Int), .slice (some ⟨bd, od, none⟩) 4096 cd] 67 (0, 0)) := by rw [hu1]; exact heap_alloc_new u _
      have hb1 := hb.trans (bu1.mono hbs)
      have ho1 := own_below ho bu1
      have hd1 := hd.below bu1
      have HU1 := hid hu1; have HMM := hid hmm; have HFR := hid hfr; have HC := hid hc
      clear hu1 hmm hfr hc t1 t2
      by_cases hat : (j : Int) = at_
      · obtain ⟨fz, b0, o0, cc0, cz, czr, czl⟩ := row_cell ho1 hd1 (H4S.out j (by omega)) m (by rw [HLS.out]; exact hm)
        subst hat
        have hat : (j : Int) = (j : Int) := rfl
        obtain ⟨old, hold⟩ : ∃ l, l = (d.crS ks (j : Int) s j).getD m [] := ⟨_, rfl⟩
        rw [← hold] at czr czl
        have cs1 := crS_at (d := d) (ks := ks) (s := s) hat
        clear hat
        rw [← HMM.out, ← HFR.out, ← hold] at cs1
        have CB := CopyBytes_any u1 (some ⟨b0, o0, none⟩) cc0 4096 old czl.symm (by omega) czr
        rw [HU1.out] at cz CB
        have CS1 := hid cs1; have HFZ := hid fz; have HOLD := hid czl
        clear cs1 hold czr czl fz
        go_wp2_with fail
        refine CB.mono ?_
        rintro e u2 ⟨A2, c2, rfl, o2, b2⟩
        rw [← HU1.out] at o2 b2
        obtain ⟨g2, rfl, hg2, hg2'⟩ := own_adr o2 (by intro e; have := HOLD.out; rw [e] at this; simp at this)
        have rz2 := (b2.block _ (heap_in rz)).trans rz
        have z2 : u2.cell? ⟨u.heap.size, 1, none⟩ = some (.slice (some ⟨bd, od, none⟩) 4096 cd) := by rw [cell_of_row _ _ _ _ _ _ rz2]; rfl
        have t3r := (t3u.below bu1).below b2 |>.rdb
        have hu1s : u1.heap.size = u.heap.size + 1 := by rw [HU1.out]; simp
        have HU1S := hid hu1s
        clear CB hu1s
        go_wp2_with fail
        go_loopw [13] (fun i wr => ∃ k : Nat, k ≤ 4096 ∧ i = .int .i64 k ∧ OwnB u1.heap.size wr (some ⟨g2, 0, none⟩) c2 (tornK old fr s k) ∧ Below u1.heap.size u1 wr) (fun i _ => 4096 - (intOf i).toNat)
        case atStart => exact ⟨0, by omega, rfl, by rw [tornK_zero HOLD.out]; exact o2, b2⟩
        case round =>
          obtain ⟨k, hk, rfl, ok2, bk⟩ := hrel
          obtain ⟨u3, rfl⟩ : ∃ u3, u3 = wr := ⟨_, rfl⟩
          by_cases hlt2 : k < 4096
          · have rz3 := (bk.block _ (heap_in rz)).trans rz
            have z3 : u3.cell? ⟨u.heap.size, 1, none⟩ = some (.slice (some ⟨bd, od, none⟩) 4096 cd) := by rw [cell_of_row _ _ _ _ _ _ rz3]; rfl
            have hbit := sb_shl s (k / 512) hs (by omega)
            have frd := ((t3u.below bu1).rdb).below bk
            obtain ⟨bd', od', e, hcd⟩ := frd.at_ (by intro e; rw [e] at hm4; simp at hm4)
            simp only [Option.some.injEq, Addr.mk.injEq, and_true] at e
            obtain ⟨rfl, rfl⟩ := e
            have y5 := hcd k (by omega)
            have hlk := tornK_length old fr s k
            have fz2 := ok2.free k
            obtain ⟨g', e, hgb, hc2, _⟩ := ok2.at_ (by intro e; rw [e] at hlk; simp at hlk)
            simp only [Option.some.injEq, Addr.mk.injEq, and_true] at e
            subst e
            have y6 := hc2 k (by rw [hlk]; exact hlt2)
            have st := ok2.store k (bat fr k)
            rcases hq : sb s (k / 512)
            · rw [hq] at hbit
              have e1 := tornK_skip old fr s k hq
              have HQ := hid e1; have HK2 := hid ok2
              clear hcd hc2 hq e1 ok2 st hlk frd y6
              go_wp2_with fail
              exact ⟨⟨k + 1, by omega, by go_num, by rw [HQ.out]; exact HK2.out, bk⟩, by simp [intOf]; omega⟩
            · rw [hq] at hbit
              have e1 := tornK_take old fr s k hlt2 hq
              rw [← e1] at st
              have ST := hid st
              clear hcd hc2 hq e1 ok2 st hlk frd
              go_wp2_with fail
              exact ⟨⟨k + 1, by omega, by go_num, ST.out, bk.setCell (p := ⟨g2, k, none⟩) hgb _⟩, by simp [intOf]; omega⟩
          · obtain rfl : k = 4096 := by omega
            rw [tornK_all] at ok2
            have rz3 := (bk.block _ (heap_in rz)).trans rz
            have z0 : u3.cell? ⟨u.heap.size, 0, none⟩ = some (.int .i64 (m : Int)) := by rw [cell_of_row _ _ _ _ _ _ rz3]; rfl
            have ho3 := own_below ho1 bk
            have hd3 := hd1.below bk
            have hb3 := hb1.trans (bk.mono hb1.size)
            obtain ⟨fz3, b3, o3, cc3, cz3, -, -⟩ := row_cell ho3 hd3 (H4S.out j (by omega)) m (by rw [HLS.out]; exact hm)
            have hdt : Dat (Qp Q w) u3 (.slice (some ⟨g2, 0, none⟩) 4096 c2) (tornB old fr s) := by
              have := Dat.own (Q := Qp Q w) ok2 (.inr (by have := hbw.size; have := hb1.size; omega))
              rw [tornB_length] at this
              exact this
            have st := row_store ho3 hd3 hdt m
            rw [← CS1.out] at st
            have ST := hid st
            clear st rz3
            go_wp2_with fail
            exact ⟨⟨j + 1, zs.set m _, by omega, by go_num, ST.out.1, ST.out.2, hb3.setCell (p := ⟨g9, m, none⟩) hg9 _⟩, by simp [intOf]; omega⟩
      · have e1 : ((j : Int) != at_) = true := by rw [bne_iff_ne]; exact hat
        by_cases hjk : j < ks.length
        · obtain ⟨xk, ok, rfl, hck⟩ := hr (bools_ne hjk)
          have hkk : (Bools ks)[j]? = some (.bool (ks.getD j false)) := by
            simp [Bools, List.getD_eq_getElem?_getD, List.getElem?_eq_getElem hjk]
          have ck0 := cell_below bu1 (cell_below hb (cell_below hbw (hck j _ hkk)))
          have hjN : decide ((j : Int) < (N : Int)) = true := decide_eq_true (by have := HN.out; omega)
          have hjN2 : j < N := by have := HN.out; omega
          rcases hkb : ks.getD j false
          · rw [hkb, HU1.out] at ck0
            have cs1 := crS_drop (d := d) (s := s) hat hkb
            have CS1 := hid cs1; have HKB := hid hkb
            clear hck hkk hkb cs1
            go_wp2_with fail
            rw [← HU1.out]
            exact ⟨⟨j + 1, zs, by omega, by go_num, ho1, by rw [CS1.out]; exact hd1, hb1⟩, by simp [intOf]; omega⟩
          · rw [hkb, HU1.out] at ck0
            have cs1 := crS_keep (d := d) (s := s) hat hkb
            rw [← HMM.out, ← HFR.out] at cs1
            obtain ⟨fz, b0, o0, cc0, cz, -, -⟩ := row_cell ho1 hd1 (H4S.out j (by omega)) m (by rw [HLS.out]; exact hm)
            have t3u1 := (t3u.below bu1).monoQ (Q' := Qp Q w) (fun b hb => .inl hb)
            have st := row_store ho1 hd1 t3u1 m
            rw [HU1.out] at fz cz
            have CS1 := hid cs1; have HKB := hid hkb; have ST := hid st
            clear hck hkk hkb cs1 st
            go_wp2_with fail
            rw [← HU1.out]
            exact ⟨⟨j + 1, zs.set m _, by omega, by go_num, ST.out.1, by rw [CS1.out]; exact ST.out.2, hb1.setCell (p := ⟨g9, m, none⟩) hg9 _⟩, by simp [intOf]; omega⟩
        · have hjN : decide ((j : Int) < (N : Int)) = false := decide_eq_false (by have := HN.out; omega)
          have hjN2 : ¬ j < N := by have := HN.out; omega
          have cs1 := crS_drop (d := d) (s := s) hat (show ks.getD j false = false by rw [List.getD_eq_getElem?_getD, List.getElem?_eq_none (by omega)]; rfl)
          have CS1 := hid cs1
          clear cs1
          go_wp2_with fail
          rw [← HU1.out]
          exact ⟨⟨j + 1, zs, by omega, by go_num, ho1, by rw [CS1.out]; exact hd1, hb1⟩, by simp [intOf]; omega⟩
    · obtain rfl : j = K := by omega
      have ru1 := (hb.block _ (heap_in row1)).trans row1
      have k2 := (six ru0).2.2.1
      obtain ⟨x0, x1, x2, x3, x4, x5⟩ := six ru1
      have f0 := frow ru1 0; have f1 := frow ru1 1; have f2 := frow ru1 2; have f3 := frow ru1 3; have f4 := frow ru1 4; have f5 := frow ru1 5
      have RU1 := hid ru1
      clear ru0 ru1 row0 row1
      go_wp2_with fail
      obtain ⟨uf, huf⟩ : ∃ uf, uf = ((((((u.setCell ⟨w.heap.size + 1, 0, none⟩ (.slice (some ⟨g9, 0, none⟩) M c9)).setCell ⟨w.heap.size + 1, 1, none⟩ (.slice none 0 0)).setCell ⟨w.heap.size + 1, 2, none⟩ (.int .i64 d.count)).setCell ⟨w.heap.size + 1, 3, none⟩ (.bool false)).setCell ⟨w.heap.size + 1, 4, none⟩ (.int .i64 (-1))).setCell ⟨w.heap.size + 1, 5, none⟩ (.int .i64 (-1))) := ⟨_, rfl⟩
      have hrf : uf.heap[w.heap.size + 1]? = some (.cells #[.slice (some ⟨g9, 0, none⟩) M c9, .slice none 0 0, .int .i64 d.count, .bool false, .int .i64 (-1), .int .i64 (-1)] 59 (0, 0)) := by rw [huf]; exact row_set6 RU1.out
      have kf : Kpt (fun b => b = w.heap.size + 1) u uf := by rw [huf]; exact kpt_set6 (Kpt.refl _ _) rfl
      rw [← huf]
      clear x0 x1 x2 x3 x4 x5 f0 f1 f2 f3 f4 f5
      obtain ⟨z0, z1, z2, z3, z4, z5⟩ := six hrf
      have hsz := HSZ.out
      have hof := own_kpt ho kf (fun b hb e => by have := (own_row ho hb).1; omega)
      have hdf := hd.kpt kf (fun b e => by rw [e]; exact row_not_u8 RU1.out (by decide))
      have hbw1 : Below w.heap.size w u := hbw.trans (hb.mono hbw.size)
      refine bodyPost_ret (v := .agg #[.slice (some ⟨g9, 0, none⟩) M c9, .slice none 0 0, .int .i64 d.count, .bool false, .int .i64 (-1), .int .i64 (-1)]) (by simp [results, Try.results36, go_sem, z0, z1, z2, z3, z4, z5]) rfl ⟨_, fun b => b = g9, rfl, ⟨g9, c9, none, 0, zs, [], ?_, fun b => ?_, RdV.own hof, RdV.nil _ _, ?_, Dats.nil _, ?_⟩, ?_, kpt_below' hbw1 kf hbw1.size (fun k hk hs => by omega)⟩
      · have t1 : (d.crash ks at_ s).safe.length = M := by show (d.crS ks at_ s d.wn.length).length = M; rw [HLS.out]
        rw [t1]; rfl
      · simp
      · show Dats (Qp Q w) uf zs (d.crS ks at_ s d.wn.length)
        rw [HKK.out]
        exact hdf
      · rintro b rfl
        obtain ⟨_, t2, cc, t3⟩ := own_row hof (b := b) rfl
        exact ⟨t2, row_not_u8 t3 (by decide)⟩
      · rintro b rfl
        have := hbw.size
        exact .inr (by omega)
end Go.Proofs.Ytddejjmebokgiaa
