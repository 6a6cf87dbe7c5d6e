/- Texts joined: BtQ. -/
import Derived.Test.YtahlhdhljjpeoaaGBitsErrors12
import Derived.Test.YtahlhdhljjpeoaaGBitsErrors17
/- bits.Left (printed by gen24l.py). -/
namespace Go.Proofs.Ytahlhdhljjpeoaa
open Go.RowKit Go.Shelf
attribute [local go_sem] Oper.semAt_some
set_option maxHeartbeats 3200000
set_option maxRecDepth 100000
set_option linter.unusedVariables false
set_option linter.unusedSimpArgs false

theorem leaveL {P : Program} {fn : Func} {R : Ending → World → Prop} {tmps : Array Value} {v : Value} : ∀ (Ds : List Nat) (w : World), Ds.Nodup → (∀ D, D ∈ Ds → w.heap[D]? = some (.deferred (some []))) →
    (∀ w', Kpt (fun b => b ∈ Ds) w w' → (results fn tmps).run P w' = .ok v w') → (∀ w', Kpt (fun b => b ∈ Ds) w w' → R (.returned v) w') → LeavesInM Fence.wide 0 P fn tmps R (Ds.map markOf) .returning w
  | [], w, hn, hD, hv, hR => ⟨v, hv w (Kpt.refl _ _), hR w (Kpt.refl _ _)⟩
  | D :: Ds, w, hn, hD, hv, hR => by
    obtain ⟨hn1, hn2⟩ := List.nodup_cons.1 hn
    have hk : Kpt (fun b => b ∈ D :: Ds) w (w.putObj D (.deferred none)) := (Kpt.putObj w D _).mono (fun b hb => by rw [hb]; exact List.mem_cons_self)
    refine ⟨by simp, .inl ⟨D, _, rfl, run_takeDeferred (hD D List.mem_cons_self), leaveL Ds _ hn2 (fun E hE => ?_) (fun w' k => hv w' (hk.trans (k.mono fun b hb => List.mem_cons_of_mem _ hb))) (fun w' k => hR w' (hk.trans (k.mono fun b hb => List.mem_cons_of_mem _ hb)))⟩⟩
    exact (World.putObj_heap_other (fun e => hn1 (by first | (rw [e]; exact hE) | (rw [← e]; exact hE)))).trans (hD E (List.mem_cons_of_mem _ hE))
theorem leaveQ {P : Program} {fn : Func} {R : Ending → World → Prop} {e : Exit} {a : Act} {w : World} {v : Value} (Ds : List Nat) (he : e = .ret ∨ e = .normal) (hd : a.defers = Ds.map markOf) (hn : Ds.Nodup) (h : ∀ D, D ∈ Ds → w.heap[D]? = some (.deferred (some [])))
    (hv : ∀ w', Kpt (fun b => b ∈ Ds) w w' → (results fn a.tmps).run P w' = .ok v w') (hR : ∀ w', Kpt (fun b => b ∈ Ds) w w' → R (.returned v) w') : bodyPostM Fence.wide 0 P fn R e a w := by
  have : LeavesInM Fence.wide 0 P fn a.tmps R a.defers .returning w := by
    rw [hd]
    exact leaveL Ds w hn h hv hR
  rcases he with rfl | rfl <;> exact this
theorem set111 {w : World} {g1 g2 g3 : Nat} {t1 t2 t3 : TypeId} {x1 x2 x3 : Value} (h1 : w.heap[g1]? = some (.cells #[x1] t1 (0, 0))) (h2 : w.heap[g2]? = some (.cells #[x2] t2 (0, 0))) (h3 : w.heap[g3]? = some (.cells #[x3] t3 (0, 0))) (n12 : g1 ≠ g2) (n13 : g1 ≠ g3) (n23 : g2 ≠ g3) (a b c : Value) :
    (((w.setCell ⟨g1, 0, none⟩ a).setCell ⟨g2, 0, none⟩ b).setCell ⟨g3, 0, none⟩ c).heap[g1]? = some (.cells #[a] t1 (0, 0)) ∧ (((w.setCell ⟨g1, 0, none⟩ a).setCell ⟨g2, 0, none⟩ b).setCell ⟨g3, 0, none⟩ c).heap[g2]? = some (.cells #[b] t2 (0, 0)) ∧
    (((w.setCell ⟨g1, 0, none⟩ a).setCell ⟨g2, 0, none⟩ b).setCell ⟨g3, 0, none⟩ c).heap[g3]? = some (.cells #[c] t3 (0, 0)) ∧ Kpt (fun x => x = g1 ∨ x = g2 ∨ x = g3) w (((w.setCell ⟨g1, 0, none⟩ a).setCell ⟨g2, 0, none⟩ b).setCell ⟨g3, 0, none⟩ c) := by
  have a1 := heap_setCell_same w g1 0 _ _ a h1
  have a2 := (heap_setCell_other w ⟨g1, 0, none⟩ g2 a (by simp; omega)).trans h2
  have a3 := (heap_setCell_other w ⟨g1, 0, none⟩ g3 a (by simp; omega)).trans h3
  have b1 := (heap_setCell_other _ ⟨g2, 0, none⟩ g1 b (by simp; omega)).trans a1
  have b2 := heap_setCell_same _ g2 0 _ _ b a2
  have b3 := (heap_setCell_other _ ⟨g2, 0, none⟩ g3 b (by simp; omega)).trans a3
  refine ⟨(heap_setCell_other _ ⟨g3, 0, none⟩ g1 c (by simp; omega)).trans b1, (heap_setCell_other _ ⟨g3, 0, none⟩ g2 c (by simp; omega)).trans b2, heap_setCell_same _ g3 0 _ _ c b3, ?_⟩
  exact Kpt.setCell (Kpt.setCell (Kpt.setCell (Kpt.refl _ w) (p := ⟨g1, 0, none⟩) (.inl rfl) a) (p := ⟨g2, 0, none⟩) (.inr (.inl rfl)) b) (p := ⟨g3, 0, none⟩) (.inr (.inr rfl)) c
/-- How many inodes of a block are unused, behind so many. -/
def cntGo (b : List UInt8) : Nat → Nat → Nat → Nat × Int
  | 0, _, c => (c, 0)
  | m + 1, j, c => if gerrInd (slotB b j) = 0 then cntGo b m (j + 1) (if (gotInd (slotB b j)).k = 0 then c + 1 else c) else (c, gerrInd (slotB b j))
def lefGo (ino : Nat) : Nat → Nat → Pl → Nat → Pl × Nat × Int
  | 0, _, d, c => (d, c, 0)
  | m + 1, k, d, c => if d.spent = true then (d.tick, 0, 4) else
      if (cntGo (d.b.getD (ino + k) []) 64 0 c).2 = 0 then lefGo ino m (k + 1) d.tick (cntGo (d.b.getD (ino + k) []) 64 0 c).1
      else (d.tick, 0, (cntGo (d.b.getD (ino + k) []) 64 0 c).2)
def lefP (d : Pl) (l : Lay) : Pl × Nat × Nat × Int :=
  if usedE d l = 0 then
    if (lefGo l.ino.toNat l.ib.toNat 0 (usedD d l) 0).2.2 = 0 then ((lefGo l.ino.toNat l.ib.toNat 0 (usedD d l) 0).1, freeC (usedU d l), (lefGo l.ino.toNat l.ib.toNat 0 (usedD d l) 0).2.1, 0)
    else ((lefGo l.ino.toNat l.ib.toNat 0 (usedD d l) 0).1, 0, 0, (lefGo l.ino.toNat l.ib.toNat 0 (usedD d l) 0).2.2)
  else (usedD d l, 0, 0, usedE d l)
theorem Left_is {base : Nat} (w : World) (P : Nat) {S : Nat → Prop} {d : Pl} (h : IsPl QT base w P S d) (hl : -10000000 ≤ d.left) (l : Lay) (hbl : rightL l = true → l.bl = (d.b.length : Int)) :
    Calls Try.prog 19 #[spV P, l.val] w fun e w' => e = .returned (.tuple #[.int .i64 ((lefP d l).2.1 : Int), .int .i64 ((lefP d l).2.2.1 : Int), .int .i64 (lefP d l).2.2.2]) ∧ IsPl QT base w' P S (lefP d l).1 ∧ Kpt S w w' := by
  have US := fun (W : World) (hW : IsPl QT base W P S d) => Used_is W P hW (by omega) l hbl
  obtain ⟨R, hRe⟩ : ∃ R, R = lefP d l := ⟨_, rfl⟩
  obtain ⟨E, hE⟩ : ∃ E, E = usedE d l := ⟨_, rfl⟩
  obtain ⟨u, hu⟩ : ∃ u, u = usedU d l := ⟨_, rfl⟩
  obtain ⟨ud, hud⟩ : ∃ ud, ud = usedD d l := ⟨_, rfl⟩
  have hfp : R = if E = 0 then if (lefGo l.ino.toNat l.ib.toNat 0 ud 0).2.2 = 0 then ((lefGo l.ino.toNat l.ib.toNat 0 ud 0).1, freeC u, (lefGo l.ino.toNat l.ib.toNat 0 ud 0).2.1, 0)
    else ((lefGo l.ino.toNat l.ib.toNat 0 ud 0).1, 0, 0, (lefGo l.ino.toNat l.ib.toNat 0 ud 0).2.2) else (ud, 0, 0, E) := by rw [hRe, hE, hu, hud]; rfl
  rw [← hRe]
  simp only [← hE, ← hu, ← hud] at US
  have hR1 : E = 0 → rightL l = true ∧ ud = d.tick ∧ u.length = d.b.length := by
    intro e
    rw [hE] at e
    cases hR : rightL l with
    | false => simp [usedE, hR] at e
    | true => exact ⟨rfl, by rw [hud, usedD, if_pos hR], by rw [hu, usedU, if_pos e, usedOf_length, hbl hR, Int.toNat_natCast]⟩
  have hL : rightL l = true → 0 ≤ l.ino ∧ 0 ≤ l.ib ∧ l.ino + l.ib ≤ (d.b.length : Int) := by
    intro e
    have h1 := right_in e
    have h2 := hbl e
    omega
  have h4096 : ∀ k, k < d.b.length → (d.b.getD k []).length = 4096 := fun k hk => by
    rw [List.getD_eq_getElem?_getD, List.getElem?_eq_getElem hk]
    exact h.ok.b4 _ (List.getElem_mem hk)
  have hN5 := h.ok.max
  have H := hid h; have HUS := hid US; have HFP := hid hfp; have HR1 := hid hR1; have HL := hid hL; have H4 := hid h4096
  clear h US hRe hE hu hud hfp hR1 hL h4096 hbl
  obtain ⟨b0, b1, b2, b3, b4, b5, b6⟩ := l
  simp only [Lay.val, spV] at HUS ⊢
  obtain ⟨W4, hW4⟩ : ∃ W4, W4 = (((w.alloc (.cells #[.int .i64 b0, .int .i64 b1, .int .i64 b2, .int .i64 b3, .int .i64 b4, .int .i64 b5, .int .i64 b6] 39)).alloc (.cells #[.int .i64 0] 3)).alloc (.cells #[.int .i64 0] 3)).alloc (.cells #[.int .i64 0] 26) := ⟨_, rfl⟩
  have hb4 : Below w.heap.size w W4 := by
    rw [hW4]
    exact ((((Below.refl _ _).alloc (Nat.le_refl _) _).alloc (by simp) _).alloc (by simp; omega) _).alloc (by simp <;> omega) _
  have hz4 : W4.heap.size = w.heap.size + 4 := by rw [hW4]; simp
  have r0 : W4.heap[w.heap.size]? = some (.cells #[.int .i64 b0, .int .i64 b1, .int .i64 b2, .int .i64 b3, .int .i64 b4, .int .i64 b5, .int .i64 b6] 39 (0, 0)) := by
    rw [hW4]
    exact (Below.heap_alloc _ _ _ (by simp; omega)).trans ((Below.heap_alloc _ _ _ (by simp; omega)).trans ((Below.heap_alloc _ _ _ (by simp)).trans (heap_alloc_new w _)))
  have r1 : W4.heap[w.heap.size + 1]? = some (.cells #[.int .i64 0] 3 (0, 0)) := by
    rw [hW4]
    refine (Below.heap_alloc _ _ _ (by simp <;> omega)).trans ((Below.heap_alloc _ _ _ (by simp <;> omega)).trans ?_)
    have := heap_alloc_new (w.alloc (.cells #[.int .i64 b0, .int .i64 b1, .int .i64 b2, .int .i64 b3, .int .i64 b4, .int .i64 b5, .int .i64 b6] 39)) (.cells #[.int .i64 0] 3)
    rwa [World.size_alloc] at this
  have r2 : W4.heap[w.heap.size + 1 + 1]? = some (.cells #[.int .i64 0] 3 (0, 0)) := by
    rw [hW4]
    refine (Below.heap_alloc _ _ _ (by simp <;> omega)).trans ?_
    have := heap_alloc_new ((w.alloc (.cells #[.int .i64 b0, .int .i64 b1, .int .i64 b2, .int .i64 b3, .int .i64 b4, .int .i64 b5, .int .i64 b6] 39)).alloc (.cells #[.int .i64 0] 3)) (.cells #[.int .i64 0] 3)
    rwa [World.size_alloc, World.size_alloc] at this
  have r3 : W4.heap[w.heap.size + 1 + 1 + 1]? = some (.cells #[.int .i64 0] 26 (0, 0)) := by
    rw [hW4]
    have := heap_alloc_new (((w.alloc (.cells #[.int .i64 b0, .int .i64 b1, .int .i64 b2, .int .i64 b3, .int .i64 b4, .int .i64 b5, .int .i64 b6] 39)).alloc (.cells #[.int .i64 0] 3)).alloc (.cells #[.int .i64 0] 3)) (.cells #[.int .i64 0] 26)
    rwa [World.size_alloc, World.size_alloc, World.size_alloc] at this
  have US := HUS.out W4 (H.out.below hb4)
  have hS : ∀ b, S b → b < w.heap.size := fun b hb => (H.out.blocks hb).2.1
  have HW4 := hid hW4; have HB4 := hid hb4; have HR0 := hid r0; have HR1' := hid r1; have HR2 := hid r2; have HR3 := hid r3; have HS := hid hS
  rw [hW4] at US
  clear hW4 hb4 r0 r1 r2 r3 HUS hS
  refine calls_marks Try.func19 rfl ?_
  simp only [Try.ntmps19, List.size_toArray, List.length_cons, List.length_nil, Nat.reduceAdd, Nat.reduceSub, Array.replicate_succ, Array.replicate_zero, List.push_toArray, List.append_toArray, List.nil_append, List.cons_append]
  go_wp2_with fail
  refine US.mono ?_
  rw [← HW4.out]
  rintro e w2 ⟨⟨A2, N2, cO, rfl, hN2, ho2⟩, hi2, hk2⟩
  clear US
  have q0 := (hk2.block _ (heap_in HR0.out) (fun e => by have := HS.out _ e; omega)).trans HR0.out
  have q1 := (hk2.block _ (heap_in HR1'.out) (fun e => by have := HS.out _ e; omega)).trans HR1'.out
  have q2 := (hk2.block _ (heap_in HR2.out) (fun e => by have := HS.out _ e; omega)).trans HR2.out
  have q3 := (hk2.block _ (heap_in HR3.out) (fun e => by have := HS.out _ e; omega)).trans HR3.out
  have hkw := (Kpt.of_below HB4.out).trans hk2
  have hfp := HFP.out
  by_cases hE0 : E = 0
  · subst hE0
    obtain ⟨hR, rfl, hul⟩ := HR1.out rfl
    obtain ⟨l1, l2, l3⟩ := HL.out hR
    obtain ⟨ino, hino⟩ : ∃ n : Nat, b4 = (n : Int) := ⟨b4.toNat, by omega⟩
    obtain ⟨ib, hib⟩ : ∃ n : Nat, b5 = (n : Int) := ⟨b5.toNat, by omega⟩
    subst hino hib
    rw [if_pos rfl] at hfp
    simp only [Int.toNat_natCast] at hfp
    have hrd : RdV w2 A2 (BvL u) := RdV.own ho2
    rw [hul] at hN2
    subst hN2
    have hN1 : 0 < d.b.length := H.out.ok.pos
    have HI2 := hid hi2; have HK2 := hid hkw; have HRD := hid hrd; have HUL := hid hul; have HFPa := hid hfp
    have HQ0 := hid q0; have HQ1 := hid q1; have HQ2 := hid q2; have HQ3 := hid q3
    have hz2 := hk2.size
    clear hi2 hkw hrd hul hfp q0 q1 q2 q3 hk2 ho2 hR HL HR1 HFP
    have w3r := heap_alloc_new w2 (.cells #[.int .i64 0] 3)
    have w3b : Below w2.heap.size w2 (w2.alloc (.cells #[.int .i64 0] 3)) := (Below.refl _ _).alloc (Nat.le_refl _) _
    have hrd3 := HRD.out.kept w3b
    have HW3R := hid w3r; have HW3B := hid w3b; have HRD3 := hid hrd3
    clear w3r w3b hrd3
    go_wp2_with fail
    go_loopw [9, 30] (fun f i wr => ∃ k : Nat, k ≤ d.b.length ∧ i = .int .i64 ((k : Nat) : Int) ∧ f = .int .i64 ((freeC (u.take k) : Nat) : Int) ∧ w2.alloc (.cells #[.int .i64 0] 3) = wr) (fun _ i _ => d.b.length - (intOf i).toNat)
    case atStart => exact ⟨0, Nat.zero_le _, rfl, rfl, rfl⟩
    case round => as_aux_lemma =>
      obtain ⟨k, hk, rfl, rfl, rfl⟩ := hrel
      by_cases hlt : k < d.b.length
      · as_aux_lemma =>
        obtain ⟨x, hx⟩ : ∃ x, u[k]? = some x := ⟨u[k]'(by have := HUL.out; omega), List.getElem?_eq_getElem _⟩
        obtain ⟨b, off, rfl, hc⟩ := HRD3.out.at_ (by intro e; have := BvL_length u; rw [e] at this; have := HUL.out; simp at *; omega)
        have m0 := hc k (.bool x) (by simp [BvL, hx])
        have ht : u.take (k + 1) = u.take k ++ [x] := by rw [List.take_add_one, hx]; rfl
        have hle : freeC (u.take k) ≤ k := by unfold freeC; exact Nat.le_trans (List.count_le_length) (by simp; omega)
        obtain ⟨F, hF⟩ : ∃ F, F = freeC (u.take k) := ⟨_, rfl⟩
        rw [← hF] at hle ⊢
        cases x with
        | true =>
          have HF : Hid (freeC (u.take (k + 1)) = F) := hid (by rw [ht, hF, freeC, List.count_append]; simp [freeC])
          clear hc hx ht hF
          go_wp2_with fail
          go_roundw
          case rel => exact ⟨k + 1, by omega, by go_num, by rw [HF.out], by first | rfl | trivial⟩
          case measure => simp [intOf]; omega
        | false =>
          have HF : Hid (freeC (u.take (k + 1)) = F + 1) := hid (by rw [ht, hF, freeC, List.count_append]; simp [freeC])
          clear hc hx ht hF
          go_wp2_with fail
          go_roundw
          case rel => exact ⟨k + 1, by omega, by go_num, by rw [HF.out]; go_num, by first | rfl | trivial⟩
          case measure => simp [intOf]; omega
      · as_aux_lemma =>
        obtain rfl : k = d.b.length := by omega
        rw [List.take_of_length_le (by rw [HUL.out]; exact Nat.le_refl _)]
        have q0 := (HW3B.out.block _ (heap_in HQ0.out)).trans HQ0.out
        obtain ⟨y0, y1, y2, y3, y4, y5, y6⟩ := cells7b q0
        obtain ⟨RR, hRR⟩ : ∃ RR, RR = lefGo ino ib 0 d.tick 0 := ⟨_, rfl⟩
        have hfp := HFPa.out
        rw [← hRR] at hfp
        have HRR := hid hRR; have HFP2 := hid hfp
        have hi3 := HI2.out.below HW3B.out
        have hk3 := HK2.out.trans (Kpt.of_below HW3B.out)
        have q1 := (HW3B.out.block _ (heap_in HQ1.out)).trans HQ1.out
        have q2 := (HW3B.out.block _ (heap_in HQ2.out)).trans HQ2.out
        have q3 := (HW3B.out.block _ (heap_in HQ3.out)).trans HQ3.out
        have htl0 : d.left - 1 ≤ d.tick.left := by
          unfold Pl.tick
          split
          · exact Int.le_refl _
          · omega
        have START := hid (show ∃ (k : Nat) (dk : Pl) (c : Nat) (Ds : List Nat), ([] : List Deferred) = Ds.map markOf ∧ Ds.Nodup ∧ (∀ D, D ∈ Ds → (w2.alloc (.cells #[.int .i64 0] 3)).heap[D]? = some (.deferred (some [])) ∧ w.heap.size ≤ D) ∧ k ≤ ib ∧ Value.int .i64 0 = .int .i64 ((k : Nat) : Int) ∧ c ≤ 64 * k ∧ lefGo ino (ib - k) k dk c = RR ∧ IsPl QT base (w2.alloc (.cells #[.int .i64 0] 3)) P S dk ∧ Kpt S w (w2.alloc (.cells #[.int .i64 0] 3)) ∧ w2.heap.size < (w2.alloc (.cells #[.int .i64 0] 3)).heap.size ∧ (w2.alloc (.cells #[.int .i64 0] 3)).heap[w.heap.size]? = some (.cells #[.int .i64 b0, .int .i64 b1, .int .i64 b2, .int .i64 b3, .int .i64 (ino : Int), .int .i64 (ib : Int), .int .i64 b6] 39 (0, 0)) ∧ (w2.alloc (.cells #[.int .i64 0] 3)).heap[w.heap.size + 1]? = some (.cells #[.int .i64 0] 3 (0, 0)) ∧ (w2.alloc (.cells #[.int .i64 0] 3)).heap[w.heap.size + 1 + 1]? = some (.cells #[.int .i64 0] 3 (0, 0)) ∧ (w2.alloc (.cells #[.int .i64 0] 3)).heap[w.heap.size + 1 + 1 + 1]? = some (.cells #[.int .i64 0] 26 (0, 0)) ∧ (w2.alloc (.cells #[.int .i64 0] 3)).heap[w2.heap.size]? = some (.cells #[.int .i64 (c : Int)] 3 (0, 0)) ∧ dk.b = d.b ∧ dk.did = d.did ∧ d.left - 1 - k ≤ dk.left from
          ⟨0, d.tick, 0, [], rfl, List.nodup_nil, (by simp), Nat.zero_le _, rfl, Nat.le_refl _, hRR.symm, hi3, hk3, by simp, q0, q1, q2, q3, HW3R.out, (tick_b d).1, (tick_b d).2.2, by have := htl0; omega⟩)
        clear hRR hfp hi3 hk3 q1 q2 q3 q0 HFPa
        go_wp2_with fail
        refine wp_loop (fun a' w' => ∃ (u13 u14 u15 u16 u17 u18 u41 u42 u43 u44 u45 u46 u47 u48 u49 u50 u51 u52 u53 u54 u55 u56 u57 u58 u59 u60 u61 u62 u63 u64 u65 u66 u67 u68 u69 u70 u71 u72 : Value) (ds : List Deferred), (∃ (k : Nat) (dk : Pl) (c : Nat) (Ds : List Nat), ds = Ds.map markOf ∧ Ds.Nodup ∧ (∀ D, D ∈ Ds → w'.heap[D]? = some (.deferred (some [])) ∧ w.heap.size ≤ D) ∧ k ≤ ib ∧ u41 = .int .i64 ((k : Nat) : Int) ∧ c ≤ 64 * k ∧ lefGo ino (ib - k) k dk c = RR ∧ IsPl QT base w' P S dk ∧ Kpt S w w' ∧ w2.heap.size < w'.heap.size ∧ w'.heap[w.heap.size]? = some (.cells #[.int .i64 b0, .int .i64 b1, .int .i64 b2, .int .i64 b3, .int .i64 (ino : Int), .int .i64 (ib : Int), .int .i64 b6] 39 (0, 0)) ∧ w'.heap[w.heap.size + 1]? = some (.cells #[.int .i64 0] 3 (0, 0)) ∧ w'.heap[w.heap.size + 1 + 1]? = some (.cells #[.int .i64 0] 3 (0, 0)) ∧ w'.heap[w.heap.size + 1 + 1 + 1]? = some (.cells #[.int .i64 0] 26 (0, 0)) ∧ w'.heap[w2.heap.size]? = some (.cells #[.int .i64 (c : Int)] 3 (0, 0)) ∧ dk.b = d.b ∧ dk.did = d.did ∧ d.left - 1 - k ≤ dk.left) ∧ a' = { tmps := #[(.iface 37 (.pointer (some ⟨P, 0, none⟩))), (.agg #[.int .i64 b0, .int .i64 b1, .int .i64 b2, .int .i64 b3, .int .i64 (ino : Int), .int .i64 (ib : Int), .int .i64 b6]), undef, (.pointer (some ⟨w.heap.size, 0, none⟩)), (.pointer (some ⟨w.heap.size + 1, 0, none⟩)), (.pointer (some ⟨w.heap.size + 1 + 1, 0, none⟩)), (.pointer (some ⟨w.heap.size + 1 + 1 + 1, 0, none⟩)), (.slice A2 d.b.length cO), (.int .i64 0), (.int .i64 ((freeC u : Nat) : Int)), (.pointer (some ⟨w2.heap.size, 0, none⟩)), undef, u12, u13, u14, u15, u16, u17, u18, (.tuple #[(.slice A2 d.b.length cO), .int .i64 0]), (.iface 37 (.pointer (some ⟨P, 0, none⟩))), (.agg #[.int .i64 b0, .int .i64 b1, .int .i64 b2, .int .i64 b3, .int .i64 (ino : Int), .int .i64 (ib : Int), .int .i64 b6]), (.tuple #[(.slice A2 d.b.length cO), .int .i64 0]), (.slice A2 d.b.length cO), (.int .i64 0), (.int .i64 0), (.bool false), undef, (.slice A2 d.b.length cO), (.int .i64 (d.b.length : Int)), (.int .i64 (d.b.length : Int)), (.bool false), u32, u33, u34, u35, u36, u37, u38, (.pointer (some ⟨w.heap.size, 5, none⟩)), (.int .i64 (ib : Int)), u41, u42, u43, u44, u45, u46, u47, u48, u49, u50, u51, u52, u53, u54, u55, u56, u57, u58, u59, u60, u61, u62, u63, u64, u65, u66, u67, u68, u69, u70, u71, u72, undef, undef], defers := ds }) (fun a' _ => ib - (intOf (a'.tmps.getD 41 undef)).toNat) ?_ ?_
        · (repeat apply Exists.intro)
          exact ⟨START.out, rfl⟩
        · clear START y0 y1 y2 y3 y4 y5 y6
          rintro a' wo ⟨u13, u14, u15, u16, u17, u18, u41, u42, u43, u44, u45, u46, u47, u48, u49, u50, u51, u52, u53, u54, u55, u56, u57, u58, u59, u60, u61, u62, u63, u64, u65, u66, u67, u68, u69, u70, u71, u72, ds, hrel, ha⟩
          subst ha
          dsimp only
          obtain ⟨k, dk, c, Ds, rfl, hnd, hDs, hk, rfl, hck, hgo, hik, hkk, hzo, q0, q1, q2, q3, qu, hdb, hdd, hdl⟩ := hrel
          obtain ⟨z0, z1, z2, z3, z4, z5, z6⟩ := cells7b q0
          by_cases hlt : k < ib
          · as_aux_lemma =>
            have hibN : ib ≤ 512 := by omega
            have ID := inodes_is wo P hik (by omega) ((ino : Int) + (k : Int)) (by omega)
            have hwr : IntKind.i64.wrap ((ino : Int) + (k : Int)) = (ino : Int) + (k : Int) := IntWalk.i64_in _ (by omega)
            have hNk : ino + k < d.b.length := by omega
            have hinb : dk.inB ((ino : Int) + (k : Int)) = true := by unfold Pl.inB; rw [hdb]; exact decide_eq_true (by omega)
            obtain ⟨m, hm⟩ : ∃ m, ib - k = m + 1 := ⟨ib - k - 1, by omega⟩
            have hm2 : m = ib - (k + 1) := by omega
            rw [hm] at hgo
            unfold lefGo at hgo
            have htick := tick_b dk
            have htl : dk.left - 1 ≤ dk.tick.left := by
              unfold Pl.tick
              split
              · exact Int.le_refl _
              · omega
            have hdn : ∀ D, D ∈ Ds → D ≠ w.heap.size + 1 ∧ D ≠ w.heap.size + 1 + 1 ∧ D ≠ w.heap.size + 1 + 1 + 1 ∧ D ≠ w2.heap.size := by
              intro D hD
              have hd := (hDs D hD).1
              refine ⟨?_, ?_, ?_, ?_⟩ <;> (rintro rfl; first | (rw [q1] at hd; cases hd; done) | (rw [q2] at hd; cases hd; done) | (rw [q3] at hd; cases hd; done) | (rw [qu] at hd; cases hd; done))
            have hSD : ∀ D, D ∈ Ds → ¬ S D := fun D hD hs => by have := HS.out D hs; have := (hDs D hD).2; omega
            have HDN := hid hdn; have HND := hid hnd; have HDS := hid hDs; have HSD := hid hSD
            have HROWS := hid (And.intro q0 (And.intro q1 (And.intro q2 (And.intro q3 qu))))
            clear hdn hnd hDs hSD q0 q1 q2 q3 qu
            cases hsp : dk.spent with
            | true => as_aux_lemma =>
              rw [hsp, if_pos rfl] at hgo
              have hrE : dk.rdE ((ino : Int) + (k : Int)) = 4 := by unfold Pl.rdE; rw [hsp, if_pos rfl]
              have hrB : dk.rdB ((ino : Int) + (k : Int)) = [] := by unfold Pl.rdB; rw [hsp, if_pos rfl]
              simp only [hrE, hrB, List.length_nil] at ID
              have hfp := HFP2.out
              rw [← hgo] at hfp
              simp only at hfp
              rw [if_neg (by decide)] at hfp
              have HR := hid hfp; have HKK := hid hkk
              clear hfp hgo hrE hrB hsp htick hdb hdd hdl hkk hik hm hm2 hinb
              go_wp2_with fail
              refine ID.mono ?_
              rintro e w3 ⟨⟨A3, c3, N3, rfl, rfl, ho3⟩, hi3, hk3⟩
              obtain ⟨q0, q1, q2, q3, qu⟩ := HROWS.out
              have p1 := (hk3.block _ (heap_in q1) (fun e => by have := HS.out _ e; omega)).trans q1
              have p2 := (hk3.block _ (heap_in q2) (fun e => by have := HS.out _ e; omega)).trans q2
              have p3 := (hk3.block _ (heap_in q3) (fun e => by have := HS.out _ e; omega)).trans q3
              obtain ⟨s1, s2, s3, sk⟩ := set111 p1 p2 p3 (by omega) (by omega) (by omega) (.int .i64 0) (.int .i64 0) (.int .i64 4)
              have hnu : ∀ x, (x = w.heap.size + 1 ∨ x = w.heap.size + 1 + 1 ∨ x = w.heap.size + 1 + 1 + 1) → ¬ U8 w3 x := by
                rintro x (rfl | rfl | rfl)
                · exact row_not_u8 p1 (by decide)
                · exact row_not_u8 p2 (by decide)
                · exact row_not_u8 p3 (by decide)
              have HI5 := hid (hi3.kpt sk hnu (fun x hx e => by have := HS.out x hx; omega))
              have HK5 := hid ((HKK.out.trans hk3).upP sk (fun x hx => .inr (by omega)))
              have hds5 : ∀ D, D ∈ Ds → (((w3.setCell ⟨w.heap.size + 1, 0, none⟩ (.int .i64 0)).setCell ⟨w.heap.size + 1 + 1, 0, none⟩ (.int .i64 0)).setCell ⟨w.heap.size + 1 + 1 + 1, 0, none⟩ (.int .i64 4)).heap[D]? = some (.deferred (some [])) := fun D hD => by
                obtain ⟨n1, n2, n3, n4⟩ := HDN.out D hD
                have hd := (hk3.block D (heap_in (HDS.out D hD).1) (HSD.out D hD)).trans (HDS.out D hD).1
                exact (sk.block D (heap_in hd) (by rintro (h | h | h); exact n1 h; exact n2 h; exact n3 h)).trans hd
              have HD5 := hid hds5; have HS3 := hid (And.intro s1 (And.intro s2 s3))
              have c1 := cell_of_one p1
              have c2 := cell_of_one p2
              have c3' := cell_of_one p3
              have f1 := free_of_one p1
              have f2 := free_of_one p2
              have f3 := free_of_one p3
              clear ID ho3 hi3 hk3 q0 q1 q2 q3 qu p1 p2 p3 s1 s2 s3 sk hnu hds5
              go_wp2
              refine leaveQ Ds (v := .tuple #[.int .i64 0, .int .i64 0, .int .i64 4]) (.inl rfl) rfl HND.out HD5.out (fun w' k => ?_) (fun w' k => ?_)
              · have r1 := cell_of_one ((k.block _ (heap_in HS3.out.1) (fun e => (HDN.out _ e).1 rfl)).trans HS3.out.1)
                have r2 := cell_of_one ((k.block _ (heap_in HS3.out.2.1) (fun e => (HDN.out _ e).2.1 rfl)).trans HS3.out.2.1)
                have r3 := cell_of_one ((k.block _ (heap_in HS3.out.2.2) (fun e => (HDN.out _ e).2.2.1 rfl)).trans HS3.out.2.2)
                simp [results, Try.f19, go_sem, r1, r2, r3]
              · rw [HR.out]
                refine ⟨rfl, ?_, HK5.out.upP k (fun b hb => .inr (HDS.out b hb).2)⟩
                exact HI5.out.kpt k (fun b hb => fun ⟨cs, hc⟩ => by have := HD5.out b hb; rw [this] at hc; cases hc) (fun b hb e => HSD.out b e hb)
            | false => as_aux_lemma =>
              rw [hsp, if_neg (by decide)] at hgo
              have hrE : dk.rdE ((ino : Int) + (k : Int)) = 0 := by unfold Pl.rdE; rw [hsp, if_neg (by decide), if_pos hinb]
              have hrB : dk.rdB ((ino : Int) + (k : Int)) = d.b.getD (ino + k) [] := by
                unfold Pl.rdB
                rw [hsp, if_neg (by decide), if_pos hinb, hdb, show ((ino : Int) + (k : Int)).toNat = ino + k by omega]
              have h4 := H4.out (ino + k) hNk
              rw [hdb] at hgo
              simp only [hrE, hrB] at ID
              generalize d.b.getD (ino + k) [] = blk at ID hgo h4
              rw [h4] at ID
              obtain ⟨r, hr⟩ : ∃ r, r = cntGo blk 64 0 c := ⟨_, rfl⟩
              rw [← hr] at hgo
              have HGO := hid hgo; have HKK := hid hkk; have HR := hid hr; have HL4 := hid h4; have HT := hid htick; have HDB := hid hdb; have HDD := hid hdd; have HMM := hid hm2
              clear hgo hrE hrB hsp htick hdb hdd hkk hik hm hinb hr h4 hm2
              go_wp2_with fail
              refine ID.mono ?_
              rintro e w3 ⟨⟨A3, c3, N3, rfl, rfl, ho3⟩, hi3, hk3⟩
              clear z0 z1 z2 z3 z4 z5 z6
              obtain ⟨g, rfl, hg1, hg2⟩ := own_adrP ho3 (by intro e; have := HL4.out; rw [e] at this; simp at this)
              have hcap := ho3.cap
              rw [HL4.out] at hcap
              obtain ⟨hcap1, hcap2⟩ := hcap
              have CH : ∀ W, Calls Try.prog 57 #[.slice (some ⟨g, 0, none⟩) 4096 c3, .int .i64 64] W fun e w' => e = .returned (.func (.func 93) #[] #[.pointer (some ⟨W.heap.size, 0, none⟩), .pointer (some ⟨W.heap.size + 1, 0, none⟩)]) ∧
                w' = (W.alloc (.cells #[.slice (some ⟨g, 0, none⟩) 4096 c3] 61)).alloc (.cells #[.int .i64 ((64 : Nat) : Int)] 3) := fun W => Chunk_any W (some ⟨g, 0, none⟩) 4096 c3 64 (by omega)
              have HO3 := hid ho3; have HI3 := hid hi3; have HK3 := hid hk3
              clear ID ho3 hi3 hk3
              go_wp2_with fail
              refine (CH _).mono ?_
              rintro e w4 ⟨rfl, hw4⟩
              have HW4x := hid hw4
              clear CH hw4
              go_wp2_with fail
              have hw4 := HW4x.out
              clear HW4x
              have hb34 : Below w3.heap.size w3 w4 := by rw [hw4]; exact ((Below.refl _ _).alloc (Nat.le_refl _) _).alloc (by simp) _
              have hz34 : w4.heap.size = w3.heap.size + 2 := by rw [hw4]; simp
              have HZ34 := hid hz34
              have hz34' : w3.heap.size ≤ w4.heap.size := by omega
              have hx1 : w4.heap[w3.heap.size]? = some (.cells #[.slice (some ⟨g, 0, none⟩) 4096 c3] 61 (0, 0)) := by
                rw [hw4]
                exact (Below.heap_alloc _ _ _ (by simp)).trans (heap_alloc_new w3 _)
              have hx2 : w4.heap[w3.heap.size + 1]? = some (.cells #[.int .i64 ((64 : Nat) : Int)] 3 (0, 0)) := by
                rw [hw4]
                have := heap_alloc_new (w3.alloc (.cells #[.slice (some ⟨g, 0, none⟩) 4096 c3] 61)) (.cells #[.int .i64 ((64 : Nat) : Int)] 3)
                rwa [World.size_alloc] at this
              have K34 : Kpt S wo w4 := HK3.out.trans (Kpt.of_below hb34)
              have hz04 := K34.size
              obtain ⟨q0, q1, q2, q3, qu⟩ := HROWS.out
              have hnS : ∀ b, w.heap.size ≤ b → ¬ S b := fun b hb hs => by have := HS.out b hs; omega
              have p0 := (K34.block _ (heap_in q0) (hnS _ (by omega))).trans q0
              have p1 := (K34.block _ (heap_in q1) (hnS _ (by omega))).trans q1
              have p2 := (K34.block _ (heap_in q2) (hnS _ (by omega))).trans q2
              have p3 := (K34.block _ (heap_in q3) (hnS _ (by omega))).trans q3
              have pu := (K34.block _ (heap_in qu) (hnS _ (by omega))).trans qu
              have hrb := (HO3.out.below hb34).rd
              have hi4 := HI3.out.below hb34
              have hS0u : ∀ x, (fun b => b = w2.heap.size ∨ b = w.heap.size + 1 ∨ b = w.heap.size + 1 + 1 ∨ b = w.heap.size + 1 + 1 + 1) x → ¬ U8 w4 x := by
                rintro x (rfl | rfl | rfl | rfl)
                · exact row_not_u8 pu (by decide)
                · exact row_not_u8 p1 (by decide)
                · exact row_not_u8 p2 (by decide)
                · exact row_not_u8 p3 (by decide)
              have hS0g : ∀ x, (fun b => b = w2.heap.size ∨ b = w.heap.size + 1 ∨ b = w.heap.size + 1 + 1 ∨ b = w.heap.size + 1 + 1 + 1) x → w.heap.size < x ∧ x < wo.heap.size := by
                rintro x (rfl | rfl | rfl | rfl)
                · omega
                · exact ⟨by omega, heap_in q1⟩
                · exact ⟨by omega, heap_in q2⟩
                · exact ⟨by omega, heap_in q3⟩
              have hDS4 : ∀ D, D ∈ Ds → w4.heap[D]? = some (.deferred (some [])) := fun D hD => (K34.block D (heap_in (HDS.out D hD).1) (HSD.out D hD)).trans (HDS.out D hD).1
              have hDlt : ∀ D, D ∈ Ds → D < wo.heap.size := fun D hD => heap_in (HDS.out D hD).1
              have hDZ : ∀ D, D ∈ Ds → ¬ (fun b => b = w2.heap.size ∨ b = w.heap.size + 1 ∨ b = w.heap.size + 1 + 1 ∨ b = w.heap.size + 1 + 1 + 1) D := fun D hD h => by
                obtain ⟨n1, n2, n3, n4⟩ := HDN.out D hD
                rcases h with h | h | h | h
                · exact n4 h
                · exact n1 h
                · exact n2 h
                · exact n3 h
              have HX1 := hid hx1; have HX2 := hid hx2; have HK34 := hid (HKK.out.trans K34); have HP0 := hid p0; have HRB := hid hrb; have HI4 := hid hi4; have HS0U := hid hS0u; have HS0G := hid hS0g; have HDS4 := hid hDS4; have HDZ := hid hDZ; have HDL := hid hDlt; have HNS := hid hnS
              clear hz34 hw4 hb34 hx1 hx2 K34 q0 q1 q2 q3 qu p0 hrb hi4 hS0u hS0g hDS4 hDZ hDlt hnS HI3 HO3 HK3
              refine wp_each (t := 58) (gf := 93) rfl (enters_of Try.func93 (by kernel_rfl) rfl) _ _
                (Chunk_iter w4 w3.heap.size (w3.heap.size + 1) g 0 4096 c3 64 (by omega) ⟨by omega, by omega, by omega⟩ HX1.out HX2.out) (by intro b hb; have := HZ34.out; omega)
                (fun j Sx A => Sx = (fun b => b = w2.heap.size ∨ b = w.heap.size + 1 ∨ b = w.heap.size + 1 + 1 ∨ b = w.heap.size + 1 + 1 + 1) ∧ Kpt (fun b => b = w2.heap.size ∨ b = w.heap.size + 1 ∨ b = w.heap.size + 1 + 1 ∨ b = w.heap.size + 1 + 1 + 1) w4 A ∧ ∃ cj : Nat, cj ≤ c + j ∧ A.heap[w2.heap.size]? = some (.cells #[.int .i64 (cj : Int)] 3 (0, 0)) ∧ A.heap[w.heap.size + 1]? = some (.cells #[.int .i64 0] 3 (0, 0)) ∧ A.heap[w.heap.size + 1 + 1]? = some (.cells #[.int .i64 0] 3 (0, 0)) ∧ A.heap[w.heap.size + 1 + 1 + 1]? = some (.cells #[.int .i64 0] 26 (0, 0)) ∧ cntGo blk (64 - j) j cj = r)
                (fun cd Sx A => cd = Code.ret ∧ Sx = (fun b => b = w2.heap.size ∨ b = w.heap.size + 1 ∨ b = w.heap.size + 1 + 1 ∨ b = w.heap.size + 1 + 1 + 1) ∧ Kpt (fun b => b = w2.heap.size ∨ b = w.heap.size + 1 ∨ b = w.heap.size + 1 + 1 ∨ b = w.heap.size + 1 + 1 + 1) w4 A ∧ A.heap[w.heap.size + 1]? = some (.cells #[.int .i64 0] 3 (0, 0)) ∧ A.heap[w.heap.size + 1 + 1]? = some (.cells #[.int .i64 0] 3 (0, 0)) ∧ A.heap[w.heap.size + 1 + 1 + 1]? = some (.cells #[.int .i64 r.2] 26 (0, 0)) ∧ r.2 ≠ 0) (fun b => b = w2.heap.size ∨ b = w.heap.size + 1 ∨ b = w.heap.size + 1 + 1 ∨ b = w.heap.size + 1 + 1 + 1) ?_ ?_ ?_ ?_ ?act ?assign ?body ?done ?stop
              · intro b hb
                have := HS0G.out b hb
                have := hz34'
                have := HZ34.out
                exact ⟨by omega, by omega⟩
              · rintro j Sx A A' ⟨rfl, qk, cj, hcj, qu2, q12, q22, q32, hsc⟩ kk
                exact ⟨rfl, qk.upP kk (fun b hb => .inr hb.1), cj, hcj, (kk.block _ (heap_in qu2) (fun h => by have := h.1; omega)).trans qu2, (kk.block _ (heap_in q12) (fun h => by have := h.1; omega)).trans q12, (kk.block _ (heap_in q22) (fun h => by have := h.1; omega)).trans q22, (kk.block _ (heap_in q32) (fun h => by have := h.1; omega)).trans q32, hsc⟩
              · rintro cd Sx A A' ⟨hcd, rfl, qk, q12, q22, q32, hne⟩ kk
                exact ⟨hcd, rfl, qk.upP kk (fun b hb => .inr hb.1), (kk.block _ (heap_in q12) (fun h => by have := h.1; omega)).trans q12, (kk.block _ (heap_in q22) (fun h => by have := h.1; omega)).trans q22, (kk.block _ (heap_in q32) (fun h => by have := h.1; omega)).trans q32, hne⟩
              · exact ⟨rfl, Kpt.refl _ _, c, by omega, pu, p1, p2, p3, HR.out.symm⟩
              case assign =>
                intro l' v W2 K hK
                gi_wp2
                exact hK
              case body =>
                clear p1 p2 p3 pu
                rintro l' j v Sx W2 hv ⟨rfl, qk, cj, hcj, qu2, q12, q22, q32, hsc⟩ hS2 hlt2
                obtain ⟨hj, rfl⟩ : j < 64 ∧ v = .slice (some ⟨g, j * 64, none⟩) 64 64 := by
                  have hj : j < 64 := by have := (List.getElem?_eq_some_iff.1 hv).1; rw [chunkV_len] at this; omega
                  rw [chunkV_at g 0 64 4096 j (by omega) (by omega), show min 64 (4096 - j * 64) = 64 by omega, Nat.zero_add] at hv
                  exact ⟨hj, (Option.some.inj hv).symm⟩
                have hgnS : ¬ (fun b => b = w2.heap.size ∨ b = w.heap.size + 1 ∨ b = w.heap.size + 1 + 1 ∨ b = w.heap.size + 1 + 1 + 1) g := fun h => by have := (HS0G.out g h).2; omega
                have rp := (RdB.kptN HRB.out qk (fun b hb e => hgnS (by simp at hb; rw [hb]; exact e))).part (j * 64) 64
                rw [Nat.zero_add] at rp
                have GI := GetInode_any W2 (some ⟨g, j * 64, none⟩) 64 64 (slotB blk j) (slotB_length _ _ HL4.out hj).symm (by rw [slotB_length _ _ HL4.out hj]; decide) rp
                obtain ⟨q, hq⟩ : ∃ q, 64 - j = q + 1 := ⟨64 - j - 1, by omega⟩
                have hq2 : q = 64 - (j + 1) := by omega
                rw [hq] at hsc
                unfold cntGo at hsc
                obtain ⟨I, hI⟩ : ∃ I, I = gotInd (slotB blk j) := ⟨_, rfl⟩
                obtain ⟨E, hE⟩ : ∃ E, E = gerrInd (slotB blk j) := ⟨_, rfl⟩
                rw [← hI, ← hE] at GI hsc
                have HSC := hid hsc; have HQQ := hid hq2; have HQK := hid qk; have HQR := hid (And.intro qu2 (And.intro q12 (And.intro q22 q32)))
                clear hsc hq hq2 hI hE rp qk qu2 q12 q22 q32
                obtain ⟨kd, ln, sz, nd, dir2⟩ := I
                simp only [Ind.val, indCells] at GI HSC
                refine wpIn_block ?_
                gi_wp2_with fail
                refine ⟨trivial, rfl, CallsIn.inRound l' (callsIn_wide.2 (GI.mono ?_))⟩
                rintro e W3 ⟨A4, c4, rfl, ox, hb4⟩
                clear GI ox
                obtain ⟨W6, hW6⟩ : ∃ W6, W6 = W3.alloc (.cells #[.int .u8 (kd : Int), .int .i64 ln, .int .i64 sz, .slice A4 dir2.length c4, .int .i64 nd] 54) := ⟨_, rfl⟩
                have hb6 : Below W2.heap.size W2 W6 := by rw [hW6]; exact hb4.trans ((((Below.refl _ _).alloc (Nat.le_refl _) _)).mono hb4.size)
                obtain ⟨qu2, q12, q22, q32⟩ := HQR.out
                have m1 := (hb6.block _ (heap_in q12)).trans q12
                have m2 := (hb6.block _ (heap_in q22)).trans q22
                have m3 := (hb6.block _ (heap_in q32)).trans q32
                have mu := (hb6.block _ (heap_in qu2)).trans qu2
                have hkk6 : Kpt (fun b => b = w2.heap.size ∨ b = w.heap.size + 1 ∨ b = w.heap.size + 1 + 1 ∨ b = w.heap.size + 1 + 1 + 1) w4 W6 := HQK.out.trans (Kpt.of_below hb6)
                have cu := cell_of_one mu
                have fu := free_of_one mu
                have c1 := cell_of_one m1
                have f1 := free_of_one m1
                have c2 := cell_of_one m2
                have f2 := free_of_one m2
                have c3' := cell_of_one m3
                have f3 := free_of_one m3
                have hz26 := hb6.size
                have hgrw : Grw (fun b => b = w2.heap.size ∨ b = w.heap.size + 1 ∨ b = w.heap.size + 1 + 1 ∨ b = w.heap.size + 1 + 1 + 1) W2 (fun b => b = w2.heap.size ∨ b = w.heap.size + 1 ∨ b = w.heap.size + 1 + 1 ∨ b = w.heap.size + 1 + 1 + 1) W6 := fun b hb => ⟨by have := hS2 b hb; omega, .inl hb⟩
                rw [hW6] at cu fu c1 f1 c2 f2 c3' f3
                have HM := hid (And.intro m1 (And.intro m2 (And.intro m3 mu))); have HK6 := hid hkk6; have HB6 := hid hb6; have HW6 := hid hW6; have HG6 := hid hgrw
                clear m1 m2 m3 mu hkk6 hb6 hW6 qu2 q12 q22 q32 hb4 hgrw
                by_cases hE0 : E = 0
                · subst hE0
                  by_cases hkd : kd = 0
                  · subst hkd
                    rw [show ((0 : Nat) : Int) = 0 from rfl] at cu fu
                    have hsc := HSC.out
                    rw [if_pos rfl, if_pos rfl, HQQ.out] at hsc
                    have hwr1 : IntKind.i64.wrap ((cj : Int) + 1) = (cj : Int) + 1 := IntWalk.i64_in _ (by omega)
                    have HSC2 := hid hsc
                    clear hsc HSC c1 f1 c2 f2 c3' f3
                    gi_wp2_with fail
                    have e6 := HW6.out
                    rw [show ((0 : Nat) : Int) = 0 from rfl] at e6
                    rw [← e6]
                    obtain ⟨m1, m2, m3, mu⟩ := HM.out
                    have kst := Kpt.setCell (Kpt.refl (fun b => b = w2.heap.size ∨ b = w.heap.size + 1 ∨ b = w.heap.size + 1 + 1 ∨ b = w.heap.size + 1 + 1 + 1) W6) (p := ⟨w2.heap.size, 0, none⟩) (.inl rfl) (.int .i64 ((cj : Int) + 1))
                    refine ⟨(fun b => b = w2.heap.size ∨ b = w.heap.size + 1 ∨ b = w.heap.size + 1 + 1 ∨ b = w.heap.size + 1 + 1 + 1), (Kpt.of_below HB6.out).trans kst, fun b hb => ⟨by have := HG6.out b hb; simpa using this.1, .inl hb⟩, rfl, HK6.out.trans kst, cj + 1, by omega, ?_, ?_, ?_, ?_, HSC2.out⟩
                    · have := heap_setCell_same W6 w2.heap.size 0 _ _ (.int .i64 ((cj : Int) + 1)) mu
                      exact this
                    · exact (heap_setCell_other W6 ⟨w2.heap.size, 0, none⟩ _ _ (by simp; omega)).trans m1
                    · exact (heap_setCell_other W6 ⟨w2.heap.size, 0, none⟩ _ _ (by simp; omega)).trans m2
                    · exact (heap_setCell_other W6 ⟨w2.heap.size, 0, none⟩ _ _ (by simp; omega)).trans m3
                  · have hkI : ((kd : Int) == 0) = false := by simpa using hkd
                    have hsc := HSC.out
                    rw [if_pos rfl, if_neg hkd, HQQ.out] at hsc
                    have HSC2 := hid hsc
                    clear hsc HSC cu fu c1 f1 c2 f2 c3' f3
                    gi_wp2_with fail
                    rw [← HW6.out]
                    obtain ⟨m1, m2, m3, mu⟩ := HM.out
                    exact ⟨(fun b => b = w2.heap.size ∨ b = w.heap.size + 1 ∨ b = w.heap.size + 1 + 1 ∨ b = w.heap.size + 1 + 1 + 1), Kpt.of_below HB6.out, HG6.out, rfl, HK6.out, cj, by omega, mu, m1, m2, m3, HSC2.out⟩
                · have hb : (E != 0) = true := by simpa using hE0
                  have hsc := HSC.out
                  rw [if_neg hE0] at hsc
                  have HSC2 := hid hsc
                  clear hsc HSC cu fu
                  gi_wp2_with fail
                  rw [← HW6.out]
                  obtain ⟨m1, m2, m3, mu⟩ := HM.out
                  obtain ⟨s1, s2, s3, sk⟩ := set111 m1 m2 m3 (by omega) (by omega) (by omega) (.int .i64 0) (.int .i64 0) (.int .i64 E)
                  have sk2 := sk.mono (T := (fun b => b = w2.heap.size ∨ b = w.heap.size + 1 ∨ b = w.heap.size + 1 + 1 ∨ b = w.heap.size + 1 + 1 + 1)) (fun b hb => .inr hb)
                  have hr2 : r.2 = E := by rw [← HSC2.out]
                  refine ⟨(fun b => b = w2.heap.size ∨ b = w.heap.size + 1 ∨ b = w.heap.size + 1 + 1 ∨ b = w.heap.size + 1 + 1 + 1), (Kpt.of_below HB6.out).trans sk2, fun b hb => ⟨by have := HG6.out b hb; simpa using this.1, .inl hb⟩, rfl, rfl, HK6.out.trans sk2, s1, s2, by rw [hr2]; exact s3, by rw [hr2]; exact hE0⟩
              case done =>
                rintro Sx W5 ⟨rfl, qk, cj, hcj, qu2, q12, q22, q32, hsc⟩ hD hnD
                have hlen : (chunkV g 0 64 4096).length = 64 := by rw [chunkV_len]
                rw [hlen] at hsc hcj
                have hsc : (cj, (0 : Int)) = r := hsc
                have hgo := HGO.out
                rw [← hsc] at hgo
                simp only [if_true] at hgo
                rw [HMM.out] at hgo
                have h0' := (qk.block _ (heap_in HP0.out) (fun h => by have := (HS0G.out _ h).1; omega)).trans HP0.out
                have hi5 := HI4.out.kpt qk HS0U.out (fun b hb e => by have := HS.out b hb; have := (HS0G.out b e).1; omega)
                have hk5 : Kpt S w W5 := Kpt.upP HK34.out qk (fun b hb => .inr (by have := (HS0G.out b hb).1; omega))
                have hDs5 : ∀ D, D ∈ w4.heap.size :: Ds → W5.heap[D]? = some (.deferred (some [])) ∧ w.heap.size ≤ D := by
                  intro D hm
                  rcases List.mem_cons.1 hm with rfl | hm
                  · exact ⟨hD, by omega⟩
                  · have h1 := HDS4.out D hm
                    exact ⟨(qk.block D (heap_in h1) (HDZ.out D hm)).trans h1, (HDS.out D hm).2⟩
                have hnd5 : (w4.heap.size :: Ds).Nodup := List.nodup_cons.2 ⟨fun hm => by have := HDL.out _ hm; omega, HND.out⟩
                have hz5 := qk.size
                have FIN := hid (And.intro hgo (And.intro h0' (And.intro hi5 (And.intro hk5 (And.intro hDs5 hnd5)))))
                have FIN2 := hid (And.intro q12 (And.intro q22 (And.intro q32 qu2)))
                clear hgo h0' hi5 hk5 hDs5 hnd5 q12 q22 q32 qu2 hsc qk p1 p2 p3 pu
                go_wp2_with fail
                refine ⟨⟨_, _, _, _, _, _, _, ?rel, rfl, rfl, rfl, rfl, rfl, rfl, rfl⟩, ?measure⟩
                case rel =>
                  obtain ⟨f1, f2, f3, f4, f5, f6⟩ := FIN.out
                  obtain ⟨g1, g2, g3, g4⟩ := FIN2.out
                  exact ⟨k + 1, dk.tick, cj, w4.heap.size :: Ds, rfl, f6, f5, by omega, by go_num, by omega, f1, f3, f4, by omega, f2, g1, g2, g3, g4, HT.out.1.trans HDB.out, HT.out.2.2.trans HDD.out, by push_cast; omega⟩
                case measure => simp [intOf]; omega
              case stop =>
                rintro cd Sx W5 ⟨rfl, rfl, qk, q12, q22, q32, hne⟩ hD hnD
                have hgo := HGO.out
                rw [if_neg hne] at hgo
                have hfp := HFP2.out
                rw [← hgo] at hfp
                simp only at hfp
                rw [if_neg hne] at hfp
                have hi5 := HI4.out.kpt qk HS0U.out (fun b hb e => by have := HS.out b hb; have := (HS0G.out b e).1; omega)
                have hk5 : Kpt S w W5 := Kpt.upP HK34.out qk (fun b hb => .inr (by have := (HS0G.out b hb).1; omega))
                have hDs5 : ∀ D, D ∈ w4.heap.size :: Ds → W5.heap[D]? = some (.deferred (some [])) ∧ w.heap.size ≤ D ∧ ¬ (fun b => b = w2.heap.size ∨ b = w.heap.size + 1 ∨ b = w.heap.size + 1 + 1 ∨ b = w.heap.size + 1 + 1 + 1) D := by
                  intro D hm
                  rcases List.mem_cons.1 hm with rfl | hm
                  · exact ⟨hD, by omega, hnD⟩
                  · have h1 := HDS4.out D hm
                    exact ⟨(qk.block D (heap_in h1) (HDZ.out D hm)).trans h1, (HDS.out D hm).2, HDZ.out D hm⟩
                have hnd5 : (w4.heap.size :: Ds).Nodup := List.nodup_cons.2 ⟨fun hm => by have := HDL.out _ hm; omega, HND.out⟩
                have FIN := hid (And.intro hfp (And.intro hi5 (And.intro hk5 (And.intro hDs5 hnd5))))
                have FIN2 := hid (And.intro q12 (And.intro q22 q32))
                clear hgo hfp hi5 hk5 hDs5 hnd5 q12 q22 q32 qk p1 p2 p3 pu
                go_wp2
                obtain ⟨f1, f2, f3, f4, f5⟩ := FIN.out
                refine leaveQ (w4.heap.size :: Ds) (v := .tuple #[.int .i64 0, .int .i64 0, .int .i64 r.2]) (.inl rfl) rfl f5 (fun D hm => (f4 D hm).1) (fun w' k => ?_) (fun w' k => ?_)
                · have r1 := cell_of_one ((k.block _ (heap_in FIN2.out.1) (fun e => (f4 _ e).2.2 (.inr (.inl rfl)))).trans FIN2.out.1)
                  have r2 := cell_of_one ((k.block _ (heap_in FIN2.out.2.1) (fun e => (f4 _ e).2.2 (.inr (.inr (.inl rfl))))).trans FIN2.out.2.1)
                  have r3 := cell_of_one ((k.block _ (heap_in FIN2.out.2.2) (fun e => (f4 _ e).2.2 (.inr (.inr (.inr rfl))))).trans FIN2.out.2.2)
                  simp [results, Try.f19, go_sem, r1, r2, r3]
                · rw [f1]
                  refine ⟨rfl, ?_, f3.upP k (fun b hb => .inr (f4 b hb).2.1)⟩
                  exact f2.kpt k (fun b hb => fun ⟨cs, hc⟩ => by have := (f4 b hb).1; rw [this] at hc; cases hc) (fun b hb e => by have := HS.out b hb; have := (f4 b e).2.1; omega)
          · as_aux_lemma =>
            obtain rfl : k = ib := by omega
            rw [Nat.sub_self] at hgo
            have hgo2 : (dk, c, (0 : Int)) = RR := hgo
            have hfp := HFP2.out
            rw [← hgo2] at hfp
            simp only [if_true] at hfp
            have cu := cell_of_one qu
            have cuD : wo.drew.cell? ⟨w2.heap.size, 0, none⟩ = some (.int .i64 (c : Int)) := cu
            obtain ⟨s1, s2, s3, sk⟩ := set111 q1 q2 q3 (by omega) (by omega) (by omega) (.int .i64 ((freeC u : Nat) : Int)) (.int .i64 (c : Int)) (.int .i64 0)
            have x1u := (heap_setCell_other wo ⟨w.heap.size + 1, 0, none⟩ w2.heap.size (.int .i64 ((freeC u : Nat) : Int)) (by simp; omega)).trans qu
            have x2u := (heap_setCell_other _ ⟨w.heap.size + 1 + 1, 0, none⟩ w2.heap.size (.int .i64 (c : Int)) (by simp; omega)).trans x1u
            have x3u := (heap_setCell_other _ ⟨w.heap.size + 1 + 1 + 1, 0, none⟩ w2.heap.size (.int .i64 0) (by simp; omega)).trans x2u
            have c1 := cell_of_one q1
            have f1 := free_of_one q1
            have c2 := cell_of_one q2
            have f2 := free_of_one q2
            have c3 := cell_of_one q3
            have f3 := free_of_one q3
            have U1 := hid (cell_of_one x1u); have U2 := hid (cell_of_one x2u); have U3 := hid (cell_of_one x3u)
            have hnu : ∀ x, (x = w.heap.size + 1 ∨ x = w.heap.size + 1 + 1 ∨ x = w.heap.size + 1 + 1 + 1) → ¬ U8 wo x := by
              rintro x (rfl | rfl | rfl)
              · exact row_not_u8 q1 (by decide)
              · exact row_not_u8 q2 (by decide)
              · exact row_not_u8 q3 (by decide)
            have HI5 := hid ((hik.kpt sk hnu (fun x hx e => by have := HS.out x hx; omega)).below (below_dr _))
            have HK5 := hid ((hkk.upP sk (fun x hx => .inr (by omega))).trans (Kpt.of_below (below_dr _)))
            have hdn : ∀ D, D ∈ Ds → D ≠ w.heap.size + 1 ∧ D ≠ w.heap.size + 1 + 1 ∧ D ≠ w.heap.size + 1 + 1 + 1 := by
              intro D hD
              have hd := (hDs D hD).1
              refine ⟨?_, ?_, ?_⟩ <;> (rintro rfl; first | (rw [q1] at hd; cases hd; done) | (rw [q2] at hd; cases hd; done) | (rw [q3] at hd; cases hd; done))
            have hDs5 : ∀ D, D ∈ Ds → (((wo.setCell ⟨w.heap.size + 1, 0, none⟩ (.int .i64 ((freeC u : Nat) : Int))).setCell ⟨w.heap.size + 1 + 1, 0, none⟩ (.int .i64 (c : Int))).setCell ⟨w.heap.size + 1 + 1 + 1, 0, none⟩ (.int .i64 0)).drew.heap[D]? = some (.deferred (some [])) := fun D hD => by
              obtain ⟨n1, n2, n3⟩ := hdn D hD
              have hd : wo.heap[D]? = some (.deferred (some [])) := (hDs D hD).1
              exact (sk.block D (heap_in hd) (by rintro (h | h | h); exact n1 h; exact n2 h; exact n3 h)).trans hd
            have hDS : ∀ D, D ∈ Ds → w.heap.size ≤ D := fun D hD => (hDs D hD).2
            have HR := hid hfp; have HD := hid (And.intro hnd (And.intro hdn hDs5)); have HS3 := hid (And.intro s1 (And.intro s2 s3))
            clear hfp hik hkk q0 q1 q2 q3 qu hgo hgo2 hnd hDs hdn hDs5 s1 s2 s3 sk x1u x2u x3u cu hnu
            go_wp2_with fail
            refine wp_region_held_drew (S := fun W1 => W1.cell? ⟨w2.heap.size, 0, none⟩ = some (.int .i64 (c : Int))) (by kernel_rfl) (by exact cuD) (fun hHeld => ?_)
            refine wpAnyH_ready (rs := [0, 1]) (by kernel_rfl) (by simp) (AllReadyH.cons (o := ?p0y5) ?gi0y5 (fun K hK => ?q0y5) (AllReadyH.cons (o := ?p1y5) ?gj1y5 (fun K hK => ?q1y5) AllReadyH.nil))
            case gi0y5 => (simp only [List.getElem?_toArray, List.getElem?_cons_zero, List.getElem?_cons_succ]; rfl)
            case gj1y5 => (simp only [List.getElem?_toArray, List.getElem?_cons_zero, List.getElem?_cons_succ]; rfl)
            case q0y5 =>
              go_simp
              refine hK.out _ _ (by exact cuD) (fun hHeld => ?_)
              clear hK K
              try simp only [Act.put, List.setIfInBounds_toArray, List.set_cons_zero, List.set_cons_succ]
              refine wpAnyH_ready (rs := [1, 2]) (by kernel_rfl) (by simp) (AllReadyH.cons (o := ?p1y3) ?gi1y3 (fun K hK => ?q1y3) (AllReadyH.cons (o := ?p2y3) ?gj2y3 (fun K hK => ?q2y3) AllReadyH.nil))
              case gi1y3 => (simp only [List.getElem?_toArray, List.getElem?_cons_zero, List.getElem?_cons_succ]; rfl)
              case gj2y3 => (simp only [List.getElem?_toArray, List.getElem?_cons_zero, List.getElem?_cons_succ]; rfl)
              case q1y3 =>
                go_simp
                refine hK.out _ _ (by exact cuD) (fun hHeld => ?_)
                clear hK K
                try simp only [Act.put, List.setIfInBounds_toArray, List.set_cons_zero, List.set_cons_succ]
                refine wpAnyH_ready (rs := [2]) (by kernel_rfl) (by simp) (AllReadyH.cons (o := ?o2z1) ?hi2z1 (fun K hK => ?r2z1) AllReadyH.nil)
                case hi2z1 => (simp only [List.getElem?_toArray, List.getElem?_cons_zero, List.getElem?_cons_succ]; rfl)
                go_simp
                refine hK.out _ _ (by exact U1.out) (fun hHeld => ?_)
                clear hK K
                try simp only [Act.put, List.setIfInBounds_toArray, List.set_cons_zero, List.set_cons_succ]
                refine wpAnyH_ready (rs := [3]) (by kernel_rfl) (by simp) (AllReadyH.cons (o := ?o3z1) ?hi3z1 (fun K hK => ?r3z1) AllReadyH.nil)
                case hi3z1 => (simp only [List.getElem?_toArray, List.getElem?_cons_zero, List.getElem?_cons_succ]; rfl)
                go_simp
                refine hK.out _ _ (by exact U2.out) (fun hHeld => ?_)
                clear hK K
                try simp only [Act.put, List.setIfInBounds_toArray, List.set_cons_zero, List.set_cons_succ]
                refine wpAnyH_ready (rs := [4]) (by kernel_rfl) (by simp) (AllReadyH.cons (o := ?o4z1) ?hi4z1 (fun K hK => ?r4z1) AllReadyH.nil)
                case hi4z1 => (simp only [List.getElem?_toArray, List.getElem?_cons_zero, List.getElem?_cons_succ]; rfl)
                go_simp
                refine hK.out _ _ (by exact U3.out) (fun hHeld => ?_)
                clear hK K
                try simp only [Act.put, List.setIfInBounds_toArray, List.set_cons_zero, List.set_cons_succ]
                refine wpAnyH_done (by kernel_rfl) ?_ _
                go_wp2_with fail
                refine leaveQ Ds (v := .tuple #[.int .i64 ((freeC u : Nat) : Int), .int .i64 (c : Int), .int .i64 0]) (.inl rfl) rfl HD.out.1 HD.out.2.2 (fun w' k => ?_) (fun w' k => ?_)
                · have r1 := cell_of_one ((k.block _ (heap_in HS3.out.1) (fun e => (HD.out.2.1 _ e).1 rfl)).trans HS3.out.1)
                  have r2 := cell_of_one ((k.block _ (heap_in HS3.out.2.1) (fun e => (HD.out.2.1 _ e).2.1 rfl)).trans HS3.out.2.1)
                  have r3 := cell_of_one ((k.block _ (heap_in HS3.out.2.2) (fun e => (HD.out.2.1 _ e).2.2 rfl)).trans HS3.out.2.2)
                  simp [results, Try.f19, go_sem, r1, r2, r3]
                · rw [HR.out]
                  refine ⟨rfl, ?_, HK5.out.upP k (fun b hb => .inr (hDS b hb))⟩
                  exact HI5.out.kpt k (fun b hb => fun ⟨cs, hc⟩ => by have := HD.out.2.2 b hb; rw [this] at hc; cases hc) (fun b hb e => by have := HS.out b hb; have := hDS b e; omega)
              case q2y3 =>
                have u1 := U1.out
                go_simp
                refine hK.out _ _ (by exact U1.out) (fun hHeld => ?_)
                clear hK K
                try simp only [Act.put, List.setIfInBounds_toArray, List.set_cons_zero, List.set_cons_succ]
                refine wpAnyH_ready (rs := [1]) (by kernel_rfl) (by simp) (AllReadyH.cons (o := ?o1z2) ?hi1z2 (fun K hK => ?r1z2) AllReadyH.nil)
                case hi1z2 => (simp only [List.getElem?_toArray, List.getElem?_cons_zero, List.getElem?_cons_succ]; rfl)
                have u1 := U1.out
                go_simp
                refine hK.out _ _ (by exact U1.out) (fun hHeld => ?_)
                clear hK K
                try simp only [Act.put, List.setIfInBounds_toArray, List.set_cons_zero, List.set_cons_succ]
                refine wpAnyH_ready (rs := [3]) (by kernel_rfl) (by simp) (AllReadyH.cons (o := ?o3z2) ?hi3z2 (fun K hK => ?r3z2) AllReadyH.nil)
                case hi3z2 => (simp only [List.getElem?_toArray, List.getElem?_cons_zero, List.getElem?_cons_succ]; rfl)
                go_simp
                refine hK.out _ _ (by exact U2.out) (fun hHeld => ?_)
                clear hK K
                try simp only [Act.put, List.setIfInBounds_toArray, List.set_cons_zero, List.set_cons_succ]
                refine wpAnyH_ready (rs := [4]) (by kernel_rfl) (by simp) (AllReadyH.cons (o := ?o4z2) ?hi4z2 (fun K hK => ?r4z2) AllReadyH.nil)
                case hi4z2 => (simp only [List.getElem?_toArray, List.getElem?_cons_zero, List.getElem?_cons_succ]; rfl)
                go_simp
                refine hK.out _ _ (by exact U3.out) (fun hHeld => ?_)
                clear hK K
                try simp only [Act.put, List.setIfInBounds_toArray, List.set_cons_zero, List.set_cons_succ]
                refine wpAnyH_done (by kernel_rfl) ?_ _
                go_wp2_with fail
                refine leaveQ Ds (v := .tuple #[.int .i64 ((freeC u : Nat) : Int), .int .i64 (c : Int), .int .i64 0]) (.inl rfl) rfl HD.out.1 HD.out.2.2 (fun w' k => ?_) (fun w' k => ?_)
                · have r1 := cell_of_one ((k.block _ (heap_in HS3.out.1) (fun e => (HD.out.2.1 _ e).1 rfl)).trans HS3.out.1)
                  have r2 := cell_of_one ((k.block _ (heap_in HS3.out.2.1) (fun e => (HD.out.2.1 _ e).2.1 rfl)).trans HS3.out.2.1)
                  have r3 := cell_of_one ((k.block _ (heap_in HS3.out.2.2) (fun e => (HD.out.2.1 _ e).2.2 rfl)).trans HS3.out.2.2)
                  simp [results, Try.f19, go_sem, r1, r2, r3]
                · rw [HR.out]
                  refine ⟨rfl, ?_, HK5.out.upP k (fun b hb => .inr (hDS b hb))⟩
                  exact HI5.out.kpt k (fun b hb => fun ⟨cs, hc⟩ => by have := HD.out.2.2 b hb; rw [this] at hc; cases hc) (fun b hb e => by have := HS.out b hb; have := hDS b e; omega)
            case q1y5 =>
              go_simp
              refine hK.out _ _ (by exact cuD) (fun hHeld => ?_)
              clear hK K
              try simp only [Act.put, List.setIfInBounds_toArray, List.set_cons_zero, List.set_cons_succ]
              refine wpAnyH_ready (rs := [0]) (by kernel_rfl) (by simp) (AllReadyH.cons (o := ?o0z4) ?hi0z4 (fun K hK => ?r0z4) AllReadyH.nil)
              case hi0z4 => (simp only [List.getElem?_toArray, List.getElem?_cons_zero, List.getElem?_cons_succ]; rfl)
              go_simp
              refine hK.out _ _ (by exact cuD) (fun hHeld => ?_)
              clear hK K
              try simp only [Act.put, List.setIfInBounds_toArray, List.set_cons_zero, List.set_cons_succ]
              refine wpAnyH_ready (rs := [2]) (by kernel_rfl) (by simp) (AllReadyH.cons (o := ?o2z4) ?hi2z4 (fun K hK => ?r2z4) AllReadyH.nil)
              case hi2z4 => (simp only [List.getElem?_toArray, List.getElem?_cons_zero, List.getElem?_cons_succ]; rfl)
              go_simp
              refine hK.out _ _ (by exact U1.out) (fun hHeld => ?_)
              clear hK K
              try simp only [Act.put, List.setIfInBounds_toArray, List.set_cons_zero, List.set_cons_succ]
              refine wpAnyH_ready (rs := [3]) (by kernel_rfl) (by simp) (AllReadyH.cons (o := ?o3z4) ?hi3z4 (fun K hK => ?r3z4) AllReadyH.nil)
              case hi3z4 => (simp only [List.getElem?_toArray, List.getElem?_cons_zero, List.getElem?_cons_succ]; rfl)
              go_simp
              refine hK.out _ _ (by exact U2.out) (fun hHeld => ?_)
              clear hK K
              try simp only [Act.put, List.setIfInBounds_toArray, List.set_cons_zero, List.set_cons_succ]
              refine wpAnyH_ready (rs := [4]) (by kernel_rfl) (by simp) (AllReadyH.cons (o := ?o4z4) ?hi4z4 (fun K hK => ?r4z4) AllReadyH.nil)
              case hi4z4 => (simp only [List.getElem?_toArray, List.getElem?_cons_zero, List.getElem?_cons_succ]; rfl)
              go_simp
              refine hK.out _ _ (by exact U3.out) (fun hHeld => ?_)
              clear hK K
              try simp only [Act.put, List.setIfInBounds_toArray, List.set_cons_zero, List.set_cons_succ]
              refine wpAnyH_done (by kernel_rfl) ?_ _
              go_wp2_with fail
              refine leaveQ Ds (v := .tuple #[.int .i64 ((freeC u : Nat) : Int), .int .i64 (c : Int), .int .i64 0]) (.inl rfl) rfl HD.out.1 HD.out.2.2 (fun w' k => ?_) (fun w' k => ?_)
              · have r1 := cell_of_one ((k.block _ (heap_in HS3.out.1) (fun e => (HD.out.2.1 _ e).1 rfl)).trans HS3.out.1)
                have r2 := cell_of_one ((k.block _ (heap_in HS3.out.2.1) (fun e => (HD.out.2.1 _ e).2.1 rfl)).trans HS3.out.2.1)
                have r3 := cell_of_one ((k.block _ (heap_in HS3.out.2.2) (fun e => (HD.out.2.1 _ e).2.2 rfl)).trans HS3.out.2.2)
                simp [results, Try.f19, go_sem, r1, r2, r3]
              · rw [HR.out]
                refine ⟨rfl, ?_, HK5.out.upP k (fun b hb => .inr (hDS b hb))⟩
                exact HI5.out.kpt k (fun b hb => fun ⟨cs, hc⟩ => by have := HD.out.2.2 b hb; rw [this] at hc; cases hc) (fun b hb e => by have := HS.out b hb; have := hDS b e; omega)
  · have hb : (E != 0) = true := by simpa using hE0
    rw [if_neg hE0] at hfp
    have c1 := cell_of_one q1
    have c2 := cell_of_one q2
    have c3 := cell_of_one q3
    have f3 := free_of_one q3
    have f2 := free_of_one q2
    have f1 := free_of_one q1
    obtain ⟨s1, s2, s3, sk⟩ := set111 q1 q2 q3 (by omega) (by omega) (by omega) (.int .i64 0) (.int .i64 0) (.int .i64 E)
    have hnu : ∀ x, (x = w.heap.size + 1 ∨ x = w.heap.size + 1 + 1 ∨ x = w.heap.size + 1 + 1 + 1) → ¬ U8 w2 x := by
      rintro x (rfl | rfl | rfl)
      · exact row_not_u8 q1 (by decide)
      · exact row_not_u8 q2 (by decide)
      · exact row_not_u8 q3 (by decide)
    have HI5 := hid (hi2.kpt sk hnu (fun x hx e => by have := HS.out x hx; omega))
    have HK5 := hid (hkw.upP sk (fun x hx => .inr (by omega)))
    have C1 := hid (cell_of_one s1); have C2 := hid (cell_of_one s2); have C3 := hid (cell_of_one s3)
    have HR := hid hfp
    clear hfp hi2 hkw hk2 ho2 hN2 hE0 q0 q1 q2 q3 s1 s2 s3 sk hnu
    go_wp2
    refine leave0 (v := .tuple #[.int .i64 0, .int .i64 0, .int .i64 E]) (.inl rfl) rfl (by simp [results, Try.f19, go_sem, C1.out, C2.out, C3.out]) ?_
    rw [HR.out]
    exact ⟨rfl, HI5.out, HK5.out⟩
end Go.Proofs.Ytahlhdhljjpeoaa
