/- record: marked. -/
import Derived.Test.YtknhfaplddgnlaaRecB
namespace Go.Proofs.Ytknhfaplddgnlaa
open Go.RowKit Go.Shelf
attribute [local go_sem] Oper.semAt_some
set_option maxHeartbeats 1000000
set_option maxRecDepth 100000
set_option linter.unusedVariables false
set_option linter.unusedSimpArgs false

theorem rd_block {w : World} {b off : Nat} {l : List UInt8} (h : RdB w (some ⟨b, off, none⟩) l) (hl : 0 < l.length) : b < w.heap.size := by
  obtain ⟨b', o', e1, hcc⟩ := h.at_ (by rintro rfl; simp at hl)
  simp only [Option.some.injEq, Addr.mk.injEq, and_true] at e1
  have := World.block_lt_of_cell? w _ (hcc 0 hl)
  simp only at this
  omega
/-- What append did to the row. -/
theorem app_kpt {W w1 : World} {A0 A1 : Option Addr} (h : (A1.map (·.block) = A0.map (·.block) ∧ W.grownBy w1 (A0.map (·.block))) ∨ (A1.map (·.block) = some W.heap.size ∧ Below W.heap.size W w1)) :
    Kpt (fun b => blkOf A0 b) W w1 ∧ ∀ b, blkOf A1 b → blkOf A0 b ∨ W.heap.size ≤ b := by
  unfold blkOf
  rcases h with ⟨h1, h2⟩ | ⟨h1, h2⟩
  · exact ⟨Kpt.of_grown h2 fun j e => e, fun b hb => .inl (h1 ▸ hb)⟩
  · refine ⟨Kpt.of_below h2, fun b hb => .inr ?_⟩
    rw [h1] at hb
    exact Nat.le_of_eq (Option.some.inj hb)
def MkInv (B H : Nat) (w2 : World) (g c' : Nat) (f : Nat → UInt8) (l : List UInt8) (k : Nat) (S : Nat → Prop) (A : World) : Prop :=
  ∃ ha hc, S = (fun b => b = g ∨ b = H ∨ blkOf ha b) ∧ Kpt (fun b => b = g ∨ b = H) w2 A ∧ OwnB B A (some ⟨g, 0, none⟩) c' (putTo f l (512 * k)) ∧
      OwnB w2.heap.size A ha hc (hidTo l k) ∧ A.heap[H]? = some (.cells #[.slice ha (8 * k) hc] 31 (0, 0))
theorem marked_any (w : World) (b off c : Nat) (l : List UInt8) (hl : l.length = 4096) (hr : RdB w (some ⟨b, off, none⟩) l) (b2 off2 c2 : Nat) (m : List UInt8) (hm : m.length = 8) (hr2 : RdB w (some ⟨b2, off2, none⟩) m) :
    Calls Try.prog 31 #[.slice (some ⟨b, off, none⟩) 4096 c, .slice (some ⟨b2, off2, none⟩) 8 c2] w fun e w' => ∃ g c' ha hc, e = .returned (.tuple #[.slice (some ⟨g, 0, none⟩) 4096 c', .slice ha 64 hc]) ∧
      OwnB w.heap.size w' (some ⟨g, 0, none⟩) c' (markB m l) ∧ OwnB w.heap.size w' ha hc (hidB l) ∧ Below w.heap.size w w' := by
  obtain ⟨f, hf⟩ : ∃ f : Nat → UInt8, f = fun k => bat m (k % 512) := ⟨_, rfl⟩
  have hsh : markB m l = putTo f l 4096 := by rw [hf]; rfl
  have hff : ∀ k, k < 8 → ∀ j, j < 8 → bat m j = f (k * 512 + j) := by
    intro k hk j hj
    rw [hf]
    simp only
    congr 1
    omega
  have hfg : ∀ k, k < 8 → ((putTo f l (512 * k)).drop (k * 512)).take 8 = (l.drop (k * 512)).take 8 := by
    intro k hk
    have e := putTo_length f l (512 * k)
    refine bat_ext (by rw [part_length _ _ _ (by omega), part_length _ _ _ (by omega)]) fun j hj => ?_
    rw [part_length _ _ _ (by omega)] at hj
    rw [bat_part _ _ _ _ hj, bat_part _ _ _ _ hj, bat_putTo _ _ _ _ (by omega), if_neg (by omega)]
  rw [hsh]
  have hb2l := rd_block hr2 (by omega)
  have hrow0 := heap_alloc_new w (.cells #[.slice (some ⟨b2, off2, none⟩) 8 c2] 31)
  have hb0 : Below w.heap.size w (w.alloc (.cells #[.slice (some ⟨b2, off2, none⟩) 8 c2] 31)) := (Below.refl _ _).alloc (Nat.le_refl _) _
  have C := CloneB_any (w.alloc (.cells #[.slice (some ⟨b2, off2, none⟩) 8 c2] 31)) b off c 4096 l hl.symm (by omega) (hr.below hb0)
  have HF := hid hff; have HSH := hid hsh; have HFD := hid hf; have HFG := hid hfg
  clear hff hsh hf hfg
  refine calls_marks Try.func31 rfl ?_
  simp only [Try.ntmps31, List.size_toArray, List.length_cons, List.length_nil, Nat.reduceAdd, Nat.reduceSub, Array.replicate_succ, Array.replicate_zero, List.push_toArray, List.append_toArray, List.nil_append, List.cons_append]
  go_wp2_with fail
  refine C.mono ?_
  rintro e w1 ⟨A, c', rfl, ho, hb1⟩
  clear C
  obtain ⟨g, rfl, hg1, hg2⟩ := own_adr4 ho (by omega)
  simp only [World.size_alloc] at *
  have hcap := ho.cap
  have hbb1 := hb0.trans (hb1.mono (Nat.le_succ _))
  have hrow1 := (hb1.block _ (by omega)).trans hrow0
  go_wp2_with fail
  refine (stamps_any _ _ _ _).mono ?_
  rintro e w2 ⟨rfl, hw2⟩
  simp only [World.size_alloc] at *
  have hb2 : Below w1.heap.size w1 w2 := by
    rw [hw2]
    exact ((Below.refl _ _).alloc (Nat.le_refl _) _).alloc (by simp) _
  have hz2 : w2.heap.size = w1.heap.size + 2 := by rw [hw2]; simp
  have hd2 : w2.heap[w1.heap.size]? = some (.cells #[.slice none 0 0] 31 (0, 0)) := by
    rw [hw2]
    exact (Below.heap_alloc _ _ _ (by simp)).trans (heap_alloc_new w1 _)
  have hbx : w2.heap[w1.heap.size + 1]? = some (.cells #[.slice (some ⟨g, 0, none⟩) 4096 c'] 31 (0, 0)) := by
    rw [hw2]
    have := heap_alloc_new (w1.alloc (.cells #[.slice none 0 0] 31)) (.cells #[.slice (some ⟨g, 0, none⟩) 4096 c'] 31)
    rwa [World.size_alloc] at this
  have hbw2 := hbb1.trans (hb2.mono hbb1.size)
  have hH2 := (hb2.block _ (heap_in hrow1)).trans hrow1
  have ho2 := ho.below hb2
  have hhr := hr2.below hbw2
  clear hw2 hrow0 hrow1 hr hr2 ho hb0 hb1 hb2 hbb1
  go_wp2_with fail
  refine wp_each (t := 13) (gf := 56) rfl (enters_of Try.func56 (by kernel_rfl) rfl) _ _
    (stamps_iter w2 (w1.heap.size + 1) g 0 c' (by omega) hbx) (by intro b hb; omega)
    (MkInv (w.heap.size + 1) w1.heap.size w2 g c' f l)
    (fun c S A => False) (fun b => b = g ∨ b = w1.heap.size) ?_ ?_ ?_ ?_ ?act ?assign ?body ?done ?stop
  · intro b hb
    omega
  · rintro k S A A' ⟨ha, hc, rfl, q1, q2, q3, q4⟩ kk
    exact ⟨ha, hc, rfl, q1.bk (Nat.le_refl _) kk, q2.kpt kk (fun h => h.2 (.inl rfl)), q3.kptA kk (fun b hb h => h.2 (.inr (.inr hb))), (kk.block _ (heap_in q4) (fun h => h.2 (.inr (.inl rfl)))).trans q4⟩
  · rintro k S A A' q _
    exact q
  · exact ⟨none, 0, by funext b; simp [blkOf], Kpt.refl _ _, by rw [Nat.mul_zero, putTo_zero]; exact ho2, OwnB.nil _ _, hd2⟩
  case assign =>
    intro l' v W2 K hK
    gi_wp2
    exact hK
  case body =>
    rintro l' k v S W2 hv ⟨ha, hc, rfl, q1, q2, q3, q4⟩ hS2 hlt
    obtain ⟨hk, rfl⟩ : k < 8 ∧ v = .slice (some ⟨g, 0 + k * 512, none⟩) 8 512 := by
      have hk : k < 8 := by have := (List.getElem?_eq_some_iff.1 hv).1; simpa [stampV] using this
      rw [stampV_at g 0 k hk] at hv
      exact ⟨hk, (Option.some.inj hv).symm⟩
    rw [Nat.zero_add]
    have cH := cell_of_one q4
    have hcopy := putTo_copy f l m k hl hk hm (HF.out k hk)
    have hpl := putTo_length f l (512 * k)
    have hhl := hidTo_length l k
    have hrl := part_length (putTo f l (512 * k)) (k * 512) 8 (by omega)
    have r1 := q2.rd.part (k * 512) 8
    rw [Nat.zero_add] at r1
    have hsz1 : w2.heap.size ≤ W2.heap.size := q1.size
    have hhs := hidTo_succ l k hl hk
    rw [← HFG.out k hk] at hhs
    have cM := cell_of_one (q1.row hH2 (by omega))
    have hnH : ¬ blkOf ha w1.heap.size := fun h => by have := (q3.blk h).1; omega
    have hnG : ¬ blkOf ha g := fun h => by have := (q3.blk h).1; omega
    have hnM : ¬ blkOf ha w.heap.size := fun h => by have := (q3.blk h).1; omega
    refine wpIn_block (wpIn_seq (region_round rfl (by rintro ⟨a, w, h⟩; exact h) ?_))
    go_wp2_with (with_reducible refine app_bytes2 rfl (.tmp 14) (.tmp 15) rfl w2.heap.size ha hc (8 * k) (hidTo l k) hhl.symm rfl q3 (some ⟨g, k * 512, none⟩) 8 512 (((putTo f l (512 * k)).drop (k * 512)).take 8) rfl hrl.symm r1 (8 * k + 8) (by rw [hhl, hrl]) (by omega) hsz1 ?_; intro A1 c1 w3 ho3 hap; obtain ⟨K1, hA1⟩ := app_kpt hap; have q43 := K1.row q4 hnH; have c3 := cell_of_one q43; have f3 := free_of_one q43)
    rw [hhs] at ho3
    -- the second region's world
    have q44 := heap_setCell_same _ _ 0 _ _ (.slice A1 (8 * k + 8) c1) q43
    have K2 : Kpt (fun b => b = w1.heap.size) w3 (w3.setCell ⟨w1.heap.size, 0, none⟩ (.slice A1 (8 * k + 8) c1)) := (Kpt.refl (fun b => b = w1.heap.size) w3).stc rfl _
    have q2' := (q2.kpt K1 hnG).kpt K2 (by omega)
    have cM' := cell_of_one ((K1.row (q1.row hH2 (by omega)) hnM).trans rfl |> fun h => K2.row h (by omega))
    have r2 := (hhr.kpt q1 (by omega)).kpt K1 (fun h => by have := (q3.blk h).1; omega)
    have r2' := r2.kpt K2 (by omega)
    have ho4 := ho3.kptA K2 (fun b hb h => by subst h; rcases hA1 _ hb with h | h; exact hnH h; omega)
    have hsz3 := K1.size
    have hz4 : (w3.setCell ⟨w1.heap.size, 0, none⟩ (.slice A1 (8 * k + 8) c1)).heap.size = w3.heap.size := by simp [World.setCell]
    clear cM r2 cH c3 f3 q43 ho3 hap r1 q4 hH2
    generalize w3.setCell ⟨w1.heap.size, 0, none⟩ (.slice A1 (8 * k + 8) c1) = w4 at *
    obtain ⟨cur, hcur, hcl, hct⟩ := q2'.row
    have ht : m.take 8 = m := List.take_of_length_le (by omega)
    refine region_round rfl (by rintro ⟨a, w, h⟩; exact h) ?_
    go_wp2_with (with_reducible refine copy_bytes rfl (.tmp 17) (.tmp 18) rfl g (k * 512) 8 512 rfl (some ⟨b2, off2, none⟩) 8 c2 m rfl hm.symm r2' cur hcur (by rw [hcl]; omega) 0 w4 (Below.refl _ _) (Nat.zero_le _) ?_; intro w5 h5 b5 z5 g5)
    rw [ht] at h5
    have o5 := OwnB.copied q2' hcur (by rw [hm, hpl]; omega) h5.out
    rw [hcopy] at o5
    have K5 : Kpt (fun b => b = g) w4 w5 := Kpt.of_grown g5 (fun j e => (Option.some.inj e).symm)
    have hA2 : ∀ b, blkOf A1 b → b ≠ g ∧ b < w3.heap.size := fun b hb => by
      have := ho4.blk hb
      omega
    refine ⟨fun b => b = g ∨ b = w1.heap.size ∨ blkOf A1 b, ?_, ?_, A1, c1, rfl, ?_, o5, ho4.kptA K5 (fun b hb => (hA2 b hb).1), ?_⟩
    · exact (K1.mono fun b hb => .inr (.inr hb)).trans ((K2.mono fun b hb => .inr (.inl hb)).trans (K5.mono fun b hb => .inl hb))
    · rintro b (rfl | rfl | hb)
      · exact ⟨by omega, .inl (.inl rfl)⟩
      · exact ⟨by omega, .inl (.inr (.inl rfl))⟩
      · have := (hA2 b hb).2
        exact ⟨by omega, (hA1 b hb).elim (fun h => .inl (.inr (.inr h))) .inr⟩
    · exact ((q1.up K1 (fun b hb => .inr (q3.blk hb).1)).up K2 (fun b hb => .inl (.inr hb))).up K5 (fun b hb => .inl (.inl hb))
    · refine (K5.row q44 (by omega)).trans ?_
      rfl
  case done =>
    rintro S W2 ⟨ha, hc, rfl, q1, q2, q3, q4⟩ hD hnD
    have e8 : (stampV g 0).length = 8 := by simp [stampV]
    rw [e8] at q2 q3 q4
    have cd : W2.cell? ⟨w1.heap.size, 0, none⟩ = some (.slice ha (8 * 8) hc) := cell_of_one q4
    have hq3 : ∀ b, blkOf ha b → b ≠ w2.heap.size := fun b hb e => hnD (.inr (.inr (e ▸ hb)))
    have HQ2 := hid q2; have HQ3 := hid q3; have HNQ := hid hq3
    clear q2 q3 q4 hnD hq3
    go_wp2_with fail
    go_quiet (fail)
    go_wp2
    have KD := (kptN (fun b => b = w2.heap.size) W2 nq).trans (Kpt.putObj (W2.drewN nq) w2.heap.size (.deferred none))
    refine leave1 (.inl rfl) rfl hD (results_tmp2 rfl _ _ _) ⟨g, c', ha, hc, rfl, (HQ2.out.kpt KD (by omega)).mono (by omega), (HQ3.out.kptA KD HNQ.out).mono (by omega), ?_⟩
    exact below_putObj (belowK hbw2 (q1.trans (kptN _ W2 nq)) (fun b hb => by omega) (by omega)) (by omega) _
  case stop =>
    rintro c S W2 h
    exact h.elim
end Go.Proofs.Ytknhfaplddgnlaa
