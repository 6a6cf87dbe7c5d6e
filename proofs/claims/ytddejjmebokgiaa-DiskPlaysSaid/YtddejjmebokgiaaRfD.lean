/- The document's disk: New, Load. -/
import Derived.Test.YtddejjmebokgiaaRfC
namespace Go.Proofs.Ytddejjmebokgiaa
open Go.RowKit
variable {Q : Nat → Prop}
set_option maxHeartbeats 3200000
set_option maxRecDepth 100000
set_option linter.unusedVariables false
set_option linter.unusedSimpArgs false

theorem row_set6 {w : World} {g : Nat} {t : TypeId} {x0 x1 x2 x3 x4 x5 v0 v1 v2 v3 v4 v5 : Value} (h : w.heap[g]? = some (.cells #[x0, x1, x2, x3, x4, x5] t (0, 0))) :
    ((((((w.setCell ⟨g, 0, none⟩ v0).setCell ⟨g, 1, none⟩ v1).setCell ⟨g, 2, none⟩ v2).setCell ⟨g, 3, none⟩ v3).setCell ⟨g, 4, none⟩ v4).setCell ⟨g, 5, none⟩ v5).heap[g]? = some (.cells #[v0, v1, v2, v3, v4, v5] t (0, 0)) :=
  heap_setCell_same _ _ _ _ _ _ (heap_setCell_same _ _ _ _ _ _ (heap_setCell_same _ _ _ _ _ _ (heap_setCell_same _ _ _ _ _ _ (heap_setCell_same _ _ _ _ _ _ (heap_setCell_same _ _ _ _ _ _ h)))))
theorem below_set6 {v w : World} {g base : Nat} {v0 v1 v2 v3 v4 v5 : Value} (h : Below base v w) (hg : base ≤ g) : Below base v ((((((w.setCell ⟨g, 0, none⟩ v0).setCell ⟨g, 1, none⟩ v1).setCell ⟨g, 2, none⟩ v2).setCell ⟨g, 3, none⟩ v3).setCell ⟨g, 4, none⟩ v4).setCell ⟨g, 5, none⟩ v5) :=
  (((((h.setCell hg _).setCell hg _).setCell hg _).setCell hg _).setCell hg _).setCell hg _
theorem kpt_set6 {v w : World} {g : Nat} {v0 v1 v2 v3 v4 v5 : Value} {S : Nat → Prop} (h : Kpt S v w) (hg : S g) : Kpt S v ((((((w.setCell ⟨g, 0, none⟩ v0).setCell ⟨g, 1, none⟩ v1).setCell ⟨g, 2, none⟩ v2).setCell ⟨g, 3, none⟩ v3).setCell ⟨g, 4, none⟩ v4).setCell ⟨g, 5, none⟩ v5) :=
  (((((h.setCell (p := ⟨g, 0, none⟩) hg _).setCell (p := ⟨g, 1, none⟩) hg _).setCell (p := ⟨g, 2, none⟩) hg _).setCell (p := ⟨g, 3, none⟩) hg _).setCell (p := ⟨g, 4, none⟩) hg _).setCell (p := ⟨g, 5, none⟩) hg _
theorem six {w : World} {g : Nat} {t : TypeId} {x0 x1 x2 x3 x4 x5 : Value} (h : w.heap[g]? = some (.cells #[x0, x1, x2, x3, x4, x5] t (0, 0))) :
    w.cell? ⟨g, 0, none⟩ = some x0 ∧ w.cell? ⟨g, 1, none⟩ = some x1 ∧ w.cell? ⟨g, 2, none⟩ = some x2 ∧ w.cell? ⟨g, 3, none⟩ = some x3 ∧ w.cell? ⟨g, 4, none⟩ = some x4 ∧ w.cell? ⟨g, 5, none⟩ = some x5 := by
  refine ⟨?_, ?_, ?_, ?_, ?_, ?_⟩ <;> (rw [cell_of_row _ _ _ _ _ _ h]; rfl)
theorem zeros_part (n k : Nat) (h : k + 4096 ≤ n) : ((zeros n).drop k).take 4096 = zeros 4096 := by
  simp only [zeros, List.drop_replicate, List.take_replicate]
  congr 1
  omega
theorem own2_kpt {W w1 : World} {v v1 : Value} (h : (v1.ownBlock = v.ownBlock ∧ W.grownBy w1 v.ownBlock) ∨ (v1.ownBlock = some W.heap.size ∧ Below W.heap.size W w1)) : Kpt (fun b => v.ownBlock = some b) W w1 := by
  rcases h with ⟨_, h⟩ | ⟨_, h⟩
  · exact .of_grown h (fun b hb => hb)
  · exact .of_below h
theorem row_past {u w2 w5 : World} {base g n size : Nat} {o : Obj} {cs : Array Value} {t e : TypeId} {v : Value} {xs : List Value} (hB : Below u.heap.size u w2) (hg : u.heap[g]? = some (.cells cs t (0, 0))) (ho : u.ownsRow base e size v n xs) (hlt : g < base) (k : Kpt (fun b => v.ownBlock = some b) (w2.alloc o) w5) : w5.heap[g]? = some (.cells cs t (0, 0)) := by
  have hgu := heap_in hg
  have hs := hB.size
  have h1 := k.block g (by simp; omega) (fun e => by have := (own_row ho e).1; omega)
  have h2 : (w2.alloc o).heap[g]? = w2.heap[g]? := Below.heap_alloc _ _ _ (by omega)
  exact h1.trans (h2.trans ((hB.block g hgu).trans hg))
theorem dats_step {u w2 w5 : World} {base n : Nat} {o : Obj} {v x : Value} {xs : List Value} {ls : List (List UInt8)} {l : List UInt8} (hd : Dats Q u xs ls) (hB : Below u.heap.size u w2) (ho : u.ownsRow base 30 1 v n xs) (k : Kpt (fun b => v.ownBlock = some b) (w2.alloc o) w5) (hn : Dat Q w2 x l) : Dats Q w5 (xs ++ [x]) (ls ++ [l]) := by
  have ba : Below w2.heap.size w2 (w2.alloc o) := (Below.refl _ _).alloc (Nat.le_refl _) _
  have hu : ∀ b, v.ownBlock = some b → ¬ U8 (w2.alloc o) b := by
    intro b hb
    obtain ⟨_, _, cs, hr⟩ := own_row (own_below (own_below ho hB) ba) hb
    exact row_not_u8 hr (by decide)
  exact (((hd.below hB).below ba).snoc (hn.below ba)).kpt k hu
theorem info_L3 : (Try.prog.info? 30).map (fun i => (i.zero, i.size, i.bytes)) = some (some (.slice none 0 0), 1, 24) := by kernel_rfl
theorem RLoad_any (w : World) (b off c m : Nat) (h1 : 1 ≤ m) (h2 : m ≤ 512) (hc : 4096 * m ≤ c) (hcm : c ≤ 9223372036854775807) (hr : RdB w (some ⟨b, off, none⟩) (zeros (4096 * m))) :
    Calls Try.prog 49 #[.slice (some ⟨b, off, none⟩) (4096 * m) c] w fun e w' => ∃ v F, e = .returned (.tuple #[v, .int .i64 0]) ∧ IsRf (fun b => w.heap.size ≤ b) w' F v (newDk m) ∧ (∀ b, F b → w.heap.size ≤ b) ∧ Below w.heap.size w w' := by
  have d1 : ((4096 : Int) * (m : Int) == 0) = false := by rw [beq_eq_false_iff_ne]; omega
  have d2 : decide ((2097152 : Int) < 4096 * (m : Int)) = false := decide_eq_false (by omega)
  obtain ⟨w1, hw1⟩ : ∃ w1, w1 = (w.alloc (.cells #[.slice none 0 0, .slice none 0 0, .int .i64 0, .bool false, .int .i64 0, .int .i64 0] 59)).alloc (.cells #[.slice none 0 0, .slice none 0 0, .int .i64 0, .bool false, .int .i64 (-1), .int .i64 (-1)] 59) := ⟨_, rfl⟩
  have b1 : Below w.heap.size w w1 := by rw [hw1]; exact ((Below.refl _ _).alloc (Nat.le_refl _) _).alloc (by simp) _
  have hsz : w1.heap.size = w.heap.size + 2 := by rw [hw1]; simp
  have row1 : w1.heap[w.heap.size + 1]? = some (.cells #[.slice none 0 0, .slice none 0 0, .int .i64 0, .bool false, .int .i64 (-1), .int .i64 (-1)] 59 (0, 0)) := by rw [hw1]; exact row_two _ _ _
  have row0 : w1.heap[w.heap.size]? = some (.cells #[.slice none 0 0, .slice none 0 0, .int .i64 0, .bool false, .int .i64 0, .int .i64 0] 59 (0, 0)) := by rw [hw1]; exact (Below.heap_alloc _ _ _ (by simp)).trans (heap_alloc_new w _)
  have HW1 := hid hw1; have HSZ := hid hsz
  clear hw1 hsz
  go_enter Try.func49, Try.ntmps49
  go_wp2_with fail
  rw [← HW1.out]
  go_loopw [5] (fun i wr => ∃ (j cs : Nat) (A : Option Addr) (xs : List Value), j ≤ m ∧ i = .int .i64 ((4096 * j : Nat) : Int) ∧ wr.heap[w.heap.size + 1]? = some (.cells #[.slice A j cs, .slice none 0 0, .int .i64 0, .bool false, .int .i64 (-1), .int .i64 (-1)] 59 (0, 0)) ∧ wr.ownsRow (w.heap.size + 2) 30 1 (.slice A j cs) j xs ∧ Dats (fun b => w.heap.size ≤ b) wr xs (List.replicate j (zeros 4096)) ∧ wr.heap[w.heap.size]? = some (.cells #[.slice none 0 0, .slice none 0 0, .int .i64 0, .bool false, .int .i64 0, .int .i64 0] 59 (0, 0)) ∧ Below w.heap.size w wr ∧ w.heap.size + 2 ≤ wr.heap.size) (fun i _ => 4096 * m - (intOf i).toNat)
  case atStart => exact ⟨0, 0, none, [], by omega, rfl, row1, ⟨rfl, .inl ⟨rfl, rfl⟩⟩, Dats.nil _, row0, b1, by rw [HSZ.out]; omega⟩
  case round =>
    obtain ⟨j, cs, A, xs, hj, rfl, hr1, ho, hd, hr0, hb, hsz⟩ := hrel
    obtain ⟨u, rfl⟩ : ∃ u, u = wr := ⟨_, rfl⟩
    have q := six hr1
    by_cases hlt : j < m
    · have hrj := (hr.below hb).part (4096 * j) 4096
      rw [zeros_part _ _ (by omega)] at hrj
      have CB := fun W (hB : Below u.heap.size u W) => CopyBytes_any W (some ⟨b, off + 4096 * j, none⟩) (c - 4096 * j) 4096 (zeros 4096) (zeros_length _).symm (by rw [zeros_length]; decide) (hrj.below hB)
      have y := q.1
      have yd : u.drew.cell? ⟨w.heap.size + 1, 0, none⟩ = some (.slice A j cs) := y
      have hn1 : decide ((4096 : Int) * (j : Int) < 4096 * (m : Int)) = true := decide_eq_true (by omega)
      have hw4 : IntKind.i64.wrap (4096 * (j : Int) + 4096) = 4096 * (j : Int) + 4096 := IntWalk.i64_in _ (by omega)
      have hs0 : (0 : Int) ≤ 4096 * (j : Int) + 4096 := by omega
      have hs1 : 4096 * (j : Int) + 4096 ≤ (c : Int) := by omega
      have hs2 : 4096 * (j : Int) ≤ max (4096 * (j : Int) + 4096) 0 := by omega
      have hs3 : (0 : Int) ≤ 4096 * (j : Int) := by omega
      have bud : Below u.heap.size u u.drew := ⟨rfl, rfl, rfl, Nat.le_refl _, fun _ _ => rfl⟩
      have CB3 : Calls Try.prog 21 #[.slice (if c = (4096 * (j : Int)).toNat then some ⟨b, off, none⟩ else some ⟨b, off + (4096 * (j : Int)).toNat, none⟩) ((4096 * (j : Int) + 4096).toNat - (4096 * (j : Int)).toNat) (c - (4096 * (j : Int)).toNat)] u.drew fun e w' => ∃ A c', e = .returned (.slice A 4096 c') ∧ OwnB u.drew.heap.size w' A c' (zeros 4096) ∧ Below u.drew.heap.size u.drew w' := by
        rw [if_neg (by omega), show (4096 * (j : Int)).toNat = 4096 * j by omega, show (4096 * (j : Int) + 4096).toNat - 4096 * j = 4096 by omega]
        exact CB _ bud
      have HR1 := hid hr1; have HR0 := hid hr0; have HO := hid ho
      have hD : w.heap.size + 1 < u.heap.size := by omega
      clear hr1 hr0 q ho
      go_wp2_with fail
      go_region_law (first
        | (refine step_own2 rfl (.tmp 29) (.tmp 36) 33 30 (.slice none 0 0) 1 24 rfl Try.underlying33 info_L3 rfl (by decide) (by decide) (w.heap.size + 2) (.slice A j cs) j xs rfl (own_below (own_below HO.out B2.out) ((Below.refl _ _).alloc (Nat.le_refl _) _)) (some ⟨w2.heap.size, 0, none⟩) 1 1 [.slice A2 4096 c2] rfl rfl (RdV.new w2 _ _) (by simp [Value.oneCell']) (by omega) (by have := B2.out.size; simp; omega) ?_; intro A5 c5 w5 h5 h6; have k5 := own2_kpt h6; have row5 := row_past B2.out HR1.out HO.out (Nat.lt_succ_self _) k5; have q5 := (six row5).1; have f5 := frow row5 0; have H5 := hid h5; have K5 := hid k5; have HR5 := hid row5; clear h5 h6 k5 row5)
        | (go_simp; go_at_call 21; refine CB3.mono ?_; rintro e w2 ⟨A2, c2, rfl, o2, b2⟩; have y2 := cell_below b2 yd; have y3 := cell_below ((Below.refl _ w2).alloc (Nat.le_refl _) (.cells #[.slice A2 4096 c2] 30)) y2; have B2 := hid (bud.trans b2); have O2 := hid o2; clear b2 o2))
      all_goals
        have hb5 : Below w.heap.size w w5 := by
          have e1 : Below w.heap.size w (w2.alloc (.cells #[.slice A2 4096 c2] 30)) := (hb.trans (B2.out.mono hb.size)).alloc (by have := B2.out.size; have := hb.size; omega) _
          exact kpt_below' e1 K5.out e1.size (fun k hk hs => by have := (own_row HO.out hs).1; omega)
        have hd5 : Dats (fun b => w.heap.size ≤ b) w5 (xs ++ [.slice A2 4096 c2]) (List.replicate j (zeros 4096) ++ [zeros 4096]) := by
          obtain ⟨g2, rfl, hg2, _⟩ := own_adr O2.out (by intro e; have := congrArg List.length e; rw [zeros_length] at this; simp at this)
          have hn2 : Dat (fun b => w.heap.size ≤ b) w2 (.slice (some ⟨g2, 0, none⟩) 4096 c2) (zeros 4096) := by
            have := Dat.own (Q := fun b => w.heap.size ≤ b) O2.out (Nat.le_trans hb.size hg2)
            rw [zeros_length] at this
            exact this
          exact dats_step hd B2.out HO.out K5.out hn2
        have hr05 := row_past B2.out HR0.out HO.out (by omega) K5.out
        obtain ⟨w6, hw6⟩ : ∃ w6, w6 = w5.setCell ⟨w.heap.size + 1, 0, none⟩ (.slice A5 (j + 1) c5) := ⟨_, rfl⟩
        have hr6 : w6.heap[w.heap.size + 1]? = some (.cells #[.slice A5 (j + 1) c5, .slice none 0 0, .int .i64 0, .bool false, .int .i64 (-1), .int .i64 (-1)] 59 (0, 0)) := by rw [hw6]; exact heap_setCell_same _ _ _ _ _ _ HR5.out
        have k6 : Kpt (fun b => b = w.heap.size + 1) w5 w6 := by rw [hw6]; exact kpt_one _
        rw [← hw6]
        have ho6 := own_kpt H5.out k6 (fun b hb e => by have := (own_row H5.out hb).1; omega)
        have hd6 := hd5.kpt k6 (fun b e => by rw [e]; exact row_not_u8 HR5.out (by decide))
        have hr06 := (k6.block w.heap.size (heap_in hr05) (by omega)).trans hr05
        have hb6 := kpt_below' hb5 k6 hb5.size (fun k hk hs => by omega)
        have hsz6 := Nat.le_trans hsz (Nat.le_trans (by have := B2.out.size; have := K5.out.size; simp at this; omega) k6.size)
        clear hw6
        go_wp2_with fail
        exact ⟨⟨j + 1, c5, A5, _, by omega, by go_num, hr6, ho6, by rw [List.replicate_succ']; exact hd6, hr06, hb6, hsz6⟩, by simp [intOf]; omega⟩
    · obtain rfl : j = m := by omega
      have hn1 : decide ((4096 : Int) * (j : Int) < 4096 * (j : Int)) = false := decide_eq_false (by omega)
      obtain ⟨y0, y1, y2, y3, y4, y5⟩ := q
      obtain ⟨x0, x1, x2, x3, x4, x5⟩ := six hr0
      have f0 := frow hr0 0; have f1 := frow hr0 1; have f2 := frow hr0 2; have f3 := frow hr0 3; have f4 := frow hr0 4; have f5 := frow hr0 5
      have HR0 := hid hr0; have HR1 := hid hr1
      clear hr0 hr1
      obtain ⟨g3, c3, he, hg3, hg3'⟩ := own_slice' ho h1 (by decide)
      simp only [Value.slice.injEq, true_and] at he
      obtain ⟨rfl, rfl⟩ := he
      go_wp2_with fail
      obtain ⟨uf, huf⟩ : ∃ uf, uf = ((((((u.setCell ⟨w.heap.size, 0, none⟩ (.slice (some ⟨g3, 0, none⟩) j cs)).setCell ⟨w.heap.size, 1, none⟩ (.slice none 0 0)).setCell ⟨w.heap.size, 2, none⟩ (.int .i64 0)).setCell ⟨w.heap.size, 3, none⟩ (.bool false)).setCell ⟨w.heap.size, 4, none⟩ (.int .i64 (-1))).setCell ⟨w.heap.size, 5, none⟩ (.int .i64 (-1))) := ⟨_, rfl⟩
      have hrf : uf.heap[w.heap.size]? = some (.cells #[.slice (some ⟨g3, 0, none⟩) j cs, .slice none 0 0, .int .i64 0, .bool false, .int .i64 (-1), .int .i64 (-1)] 59 (0, 0)) := by rw [huf]; exact row_set6 HR0.out
      have kf : Kpt (fun b => b = w.heap.size) u uf := by rw [huf]; exact kpt_set6 (Kpt.refl _ _) rfl
      rw [← huf]
      obtain ⟨z0, z1, z2, z3, z4, z5⟩ := six hrf
      have hof := own_kpt ho kf (fun b hb e => by have := (own_row ho hb).1; omega)
      have hdf := hd.kpt kf (fun b e => by rw [e]; exact row_not_u8 HR0.out (by decide))
      refine bodyPost_ret (v := .tuple #[.agg #[.slice (some ⟨g3, 0, none⟩) j cs, .slice none 0 0, .int .i64 0, .bool false, .int .i64 (-1), .int .i64 (-1)], .int .i64 0]) (by simp [results, Try.results49, go_sem, z0, z1, z2, z3, z4, z5]) rfl ⟨_, fun b => b = g3, rfl, ⟨g3, cs, none, 0, xs, [], ?_, fun b => ?_, RdV.own hof, RdV.nil _ _, hdf, Dats.nil _, ?_⟩, ?_, ?_⟩
      · simp [rfA, newDk, mkDk, Dk.am, Dk.fm]
      · simp
      · rintro b rfl
        obtain ⟨_, q2, cc, q3⟩ := own_row hof (b := b) rfl
        exact ⟨q2, row_not_u8 q3 (by decide)⟩
      · rintro b rfl
        omega
      · exact kpt_below' hb kf hb.size (fun k hk hs => by omega)
theorem RNew_any (w : World) (m : Nat) (h1 : 1 ≤ m) (h2 : m ≤ 512) :
    Calls Try.prog 33 #[.int .i64 (m : Int)] w fun e w' => ∃ v F, e = .returned (.tuple #[v, .int .i64 0]) ∧ IsRf (fun b => w.heap.size ≤ b) w' F v (newDk m) ∧ (∀ b, F b → w.heap.size ≤ b) ∧ Below w.heap.size w w' := by
  have hmk := fun W => run_mkB (4096 * m) ((m : Int) * 4096) ((m : Int) * 4096) (by omega) (by omega) (by omega) W
  have hd1 : decide ((m : Int) < 1) = false := decide_eq_false (by omega)
  have hd2 : decide ((512 : Int) < (m : Int)) = false := decide_eq_false (by omega)
  have L := fun W g (hg : RdB W (some ⟨g, 0, none⟩) (zeros (4096 * m))) => RLoad_any W g 0 (4096 * m) m h1 h2 (Nat.le_refl _) (by omega) hg
  generalize newDk m = d at *
  go_enter Try.func33, Try.ntmps33
  go_wp2_with fail
  have hra := RdB.made (w.alloc (.cells #[.slice none 0 0, .slice none 0 0, .int .i64 0, .bool false, .int .i64 0, .int .i64 0] 59)) (4096 * m) rfl
  have hbw := ((Below.refl _ w).alloc (Nat.le_refl _) (.cells #[.slice none 0 0, .slice none 0 0, .int .i64 0, .bool false, .int .i64 0, .int .i64 0] 59)).alloc (by simp) (.cells (madeCells #[.int .u8 0] (4096 * m)) 5)
  refine (L _ (w.heap.size + 1) (by simpa using hra)).mono ?_
  rintro e w2 ⟨v, F, rfl, hv, hF, b2⟩
  have hr0 : w2.heap[w.heap.size]? = some (.cells #[.slice none 0 0, .slice none 0 0, .int .i64 0, .bool false, .int .i64 0, .int .i64 0] 59 (0, 0)) := (b2.block w.heap.size (by simp; omega)).trans ((Below.heap_alloc _ _ _ (by simp)).trans (heap_alloc_new w _))
  have bb2 := hbw.trans (b2.mono hbw.size)
  have hv' : IsRf (fun b => w.heap.size ≤ b) w2 F v d := hv.monoQ (fun b hb => by have := hbw.size; omega)
  have hF' : ∀ b, F b → w.heap.size + 1 ≤ b := fun b hb => by have := hF b hb; simp at this; omega
  obtain ⟨gs, cs, A, c, e⟩ := hv.two
  subst e
  have HV := hid hv'
  clear hv hv' hra hF L hmk
  unfold rfA at *
  generalize d.safe.length = N at *
  generalize d.wn.length = K at *
  clear b2 hbw
  obtain ⟨x0, x1, x2, x3, x4, x5⟩ := six hr0
  have f0 := frow hr0 0; have f1 := frow hr0 1; have f2 := frow hr0 2; have f3 := frow hr0 3; have f4 := frow hr0 4; have f5 := frow hr0 5
  have HR0 := hid hr0
  clear hr0
  go_wp2_with fail
  obtain ⟨uf, huf⟩ : ∃ uf, uf = ((((((w2.setCell ⟨w.heap.size, 0, none⟩ (.slice (some ⟨gs, 0, none⟩) N cs)).setCell ⟨w.heap.size, 1, none⟩ (.slice A K c)).setCell ⟨w.heap.size, 2, none⟩ (.int .i64 d.count)).setCell ⟨w.heap.size, 3, none⟩ (.bool d.down)).setCell ⟨w.heap.size, 4, none⟩ (.int .i64 d.am)).setCell ⟨w.heap.size, 5, none⟩ (.int .i64 d.fm)) := ⟨_, rfl⟩
  have hrf : uf.heap[w.heap.size]? = some (.cells #[.slice (some ⟨gs, 0, none⟩) N cs, .slice A K c, .int .i64 d.count, .bool d.down, .int .i64 d.am, .int .i64 d.fm] 59 (0, 0)) := by rw [huf]; exact row_set6 HR0.out
  have kf : Kpt (fun b => b = w.heap.size) w2 uf := by rw [huf]; exact kpt_set6 (Kpt.refl _ _) rfl
  rw [← huf]
  obtain ⟨z0, z1, z2, z3, z4, z5⟩ := six hrf
  refine bodyPost_ret (v := .tuple #[.agg #[.slice (some ⟨gs, 0, none⟩) N cs, .slice A K c, .int .i64 d.count, .bool d.down, .int .i64 d.am, .int .i64 d.fm], .int .i64 0]) (by simp [results, Try.results33, go_sem, z0, z1, z2, z3, z4, z5]) rfl ⟨_, F, rfl, HV.out.kpt kf (fun b e => by rw [e]; exact row_not_u8 HR0.out (by decide)) (fun b hb e => by have := hF' b hb; omega), fun b hb => by have := hF' b hb; omega, kpt_below' bb2 kf bb2.size (fun k hk hs => by omega)⟩
end Go.Proofs.Ytddejjmebokgiaa
