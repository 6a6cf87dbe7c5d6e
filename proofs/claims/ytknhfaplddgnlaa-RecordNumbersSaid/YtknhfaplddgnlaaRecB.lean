/- record: shown, marked, spread, gathered. -/
import Derived.Test.YtknhfaplddgnlaaRecA
namespace Go.Proofs.Ytknhfaplddgnlaa
open Go.RowKit Go.Shelf
attribute [local go_sem] Oper.semAt_some
set_option maxHeartbeats 1000000
set_option maxRecDepth 100000
set_option linter.unusedVariables false
set_option linter.unusedSimpArgs false

theorem two_rows (w : World) (o p : Obj) : ((w.alloc o).alloc p).heap[w.heap.size]? = (w.alloc o).heap[w.heap.size]? := Below.heap_alloc _ _ _ (by simp)
theorem shown_any (w : World) (b off c : Nat) (l : List UInt8) (hl : l.length = 4096) (hr : RdB w (some ⟨b, off, none⟩) l) (b2 off2 c2 : Nat) (h : List UInt8) (hh : h.length = 64) (hr2 : RdB w (some ⟨b2, off2, none⟩) h) (hc2 : 64 ≤ c2 ∧ c2 ≤ 9223372036854775807) :
    Calls Try.prog 38 #[.slice (some ⟨b, off, none⟩) 4096 c, .slice (some ⟨b2, off2, none⟩) 64 c2] w fun e w' => ∃ g c', e = .returned (.slice (some ⟨g, 0, none⟩) 4096 c') ∧ OwnB w.heap.size w' (some ⟨g, 0, none⟩) c' (shownB h l) ∧ Below w.heap.size w w' := by
  obtain ⟨f, hf⟩ : ∃ f : Nat → UInt8, f = fun k => bat h (k / 512 * 8 + k % 512) := ⟨_, rfl⟩
  have hsh : shownB h l = putTo f l 4096 := by rw [hf]; rfl
  have hff : ∀ k, k < 8 → ∀ j, j < 8 → bat ((h.drop (8 * k)).take 8) j = f (k * 512 + j) := by
    intro k hk j hj
    rw [bat_part _ _ _ _ hj, hf]
    simp only
    congr 1
    omega
  rw [hsh]
  obtain ⟨hc21, hc22⟩ := hc2
  have hb2l : b2 < w.heap.size := by
    obtain ⟨b', o', e1, hcc⟩ := hr2.at_ (by rintro rfl; simp at hh)
    simp only [Option.some.injEq, Addr.mk.injEq, and_true] at e1
    have := World.block_lt_of_cell? w _ (hcc 0 (by omega))
    simp only at this
    omega
  have hrow0 := heap_alloc_new w (.cells #[.slice (some ⟨b2, off2, none⟩) 64 c2] 31)
  have hb0 : Below w.heap.size w (w.alloc (.cells #[.slice (some ⟨b2, off2, none⟩) 64 c2] 31)) := (Below.refl _ _).alloc (Nat.le_refl _) _
  have C := CloneB_any (w.alloc (.cells #[.slice (some ⟨b2, off2, none⟩) 64 c2] 31)) b off c 4096 l hl.symm (by omega) (hr.below hb0)
  have HF := hid hff; have HSH := hid hsh; have HFD := hid hf
  clear hff hsh hf
  refine calls_marks Try.func38 rfl ?_
  simp only [Try.ntmps38, List.size_toArray, List.length_cons, List.length_nil, Nat.reduceAdd, Nat.reduceSub, Array.replicate_succ, Array.replicate_zero, List.push_toArray, List.append_toArray, List.nil_append, List.cons_append]
  go_wp2_with fail
  refine C.mono ?_
  rintro e w1 ⟨A, c', rfl, ho, hb1⟩
  clear C
  obtain ⟨g, rfl, hg1, hg2⟩ := own_adr4 ho (by omega)
  simp only [World.size_alloc] at *
  have hcap := ho.cap
  have hbb1 := hb0.trans (hb1.mono (Nat.le_succ _))
  have hrow1 := (hb1.block _ (by omega)).trans hrow0
  go_wp2_with fail
  refine (stamps_any _ _ _ _).mono ?_
  rintro e w2 ⟨rfl, hw2⟩
  have hb2 : Below w1.heap.size w1 w2 := by
    rw [hw2]
    exact (Below.refl _ _).alloc (Nat.le_refl _) _
  have hz2 : w2.heap.size = w1.heap.size + 1 := by rw [hw2]; simp
  have hbx : w2.heap[w1.heap.size]? = some (.cells #[.slice (some ⟨g, 0, none⟩) 4096 c'] 31 (0, 0)) := by
    rw [hw2]
    exact heap_alloc_new w1 _
  have hbw2 := hbb1.trans (hb2.mono hbb1.size)
  have hH2 := (hb2.block _ (heap_in hrow1)).trans hrow1
  have ho2 := ho.below hb2
  have hhr := hr2.below hbw2
  clear hw2 hrow0 hrow1 hr hr2 ho hb0 hb1 hb2 hbb1
  go_wp2_with fail
  refine wp_each (t := 11) (gf := 56) rfl (enters_of Try.func56 (by kernel_rfl) rfl) _ _
    (stamps_iter w2 w1.heap.size g 0 c' (by omega) hbx) (by intro b hb; omega)
    (fun k S A => S = (fun b => b = g ∨ b = w.heap.size) ∧ Kpt (fun b => b = g ∨ b = w.heap.size) w2 A ∧ OwnB (w.heap.size + 1) A (some ⟨g, 0, none⟩) c' (putTo f l (512 * k)) ∧ ∃ ha hn hc, A.heap[w.heap.size]? = some (.cells #[.slice ha hn hc] 31 (0, 0)) ∧ (k < 8 → ha = some ⟨b2, off2 + 8 * k, none⟩ ∧ hn = 64 - 8 * k ∧ hc = c2 - 8 * k))
    (fun c S A => False) (fun b => b = g ∨ b = w.heap.size) ?_ ?_ ?_ ?_ ?act ?assign ?body ?done ?stop
  · intro b hb
    omega
  · rintro k S A A' ⟨rfl, q1, q2, ha, hn, hc, q3, q4⟩ kk
    exact ⟨rfl, q1.bk (Nat.le_refl _) kk, q2.kpt kk (fun h => h.2 (.inl rfl)), ha, hn, hc, (kk.block _ (heap_in q3) (fun h => h.2 (.inr rfl))).trans q3, q4⟩
  · rintro k S A A' q _
    exact q
  · refine ⟨rfl, Kpt.refl _ _, by rw [Nat.mul_zero, putTo_zero]; exact ho2, _, _, _, hH2, fun _ => ⟨rfl, rfl, rfl⟩⟩
  case assign =>
    intro l' v W2 K hK
    gi_wp2
    exact hK
  case body =>
    rintro l' k v S W2 hv ⟨rfl, q1, q2, ha, hn, hc, q3, q4⟩ hS2 hlt
    obtain ⟨hk, rfl⟩ : k < 8 ∧ v = .slice (some ⟨g, 0 + k * 512, none⟩) 8 512 := by
      have hk : k < 8 := by have := (List.getElem?_eq_some_iff.1 hv).1; simpa [stampV] using this
      rw [stampV_at g 0 k hk] at hv
      exact ⟨hk, (Option.some.inj hv).symm⟩
    obtain ⟨rfl, rfl, rfl⟩ := q4 hk
    rw [Nat.zero_add]
    have cH := cell_of_one q3
    obtain ⟨cur, hcur, hcl, hct⟩ := q2.row
    have r1 := (hhr.kpt q1 (by omega)).part (8 * k) 8
    have hrl := part_length h (8 * k) 8 (by omega)
    have ht : ((h.drop (8 * k)).take 8).take 8 = (h.drop (8 * k)).take 8 := List.take_of_length_le (by omega)
    have hcopy := putTo_copy f l _ k hl hk hrl (HF.out k hk)
    have hpl := putTo_length f l (512 * k)
    refine wpIn_block (wpIn_seq (region_round rfl (by rintro ⟨a, w, h⟩; exact h) ?_))
    go_wp2_with (with_reducible refine copy_bytes rfl (.tmp 12) (.tmp 14) rfl g (k * 512) 8 512 rfl (some ⟨b2, off2 + 8 * k, none⟩) 8 (c2 - 8 * k) ((h.drop (8 * k)).take 8) rfl hrl.symm r1 cur hcur (by rw [hcl]; omega) 0 W2 (Below.refl _ _) (Nat.zero_le _) ?_; intro w3 h3 b3 z3 g3)
    rw [ht] at h3
    have o3 := OwnB.copied q2 hcur (by rw [hrl, hpl]; omega) h3.out
    rw [hcopy] at o3
    have q33 : w3.heap[w.heap.size]? = some (.cells #[.slice (some ⟨b2, off2 + 8 * k, none⟩) (64 - 8 * k) (c2 - 8 * k)] 31 (0, 0)) := (g3.block _ (heap_in q3) (by simp; omega)).trans q3
    have c3 := cell_of_one q33
    have f3 := free_of_one q33
    have K3 : Kpt (fun b => b = g ∨ b = w.heap.size) W2 w3 := Kpt.of_grown g3 (fun j e => .inl (Option.some.inj e).symm)
    have HO3 := hid o3; have HQ33 := hid q33
    clear o3 q33 h3 b3 cH q3 r1 ht hcopy hct hcur
    refine region_round rfl (by rintro ⟨a, w, h⟩; exact h) ?_
    go_wp2
    all_goals
      refine ⟨_, K3.stc (.inr rfl) _, fun b hb => ⟨?_, .inl hb⟩, rfl, (q1.trans K3).stc (.inr rfl) _, HO3.out.kpt ((Kpt.refl (fun b => b = w.heap.size) w3).stc rfl _) (by omega), _, _, _, by rw [heap_setCell_same _ _ _ _ _ _ HQ33.out]; rfl, fun h8 => ?_⟩
      · have := hS2 b hb
        simp [World.setCell]
        omega
      · first
        | (exfalso; omega)
        | exact ⟨by rw [Nat.mul_add, Nat.add_assoc], by omega, by omega⟩
  case done =>
    rintro S W2 ⟨rfl, q1, q2, ha, hn, hc, q3, q4⟩ hD hnD
    have e8 : (stampV g 0).length = 8 := by simp [stampV]
    rw [e8] at q2
    rw [hz2] at hD hnD
    have HQ2 := hid q2
    clear q2 q3 q4
    go_wp2
    refine leave1 (.inl rfl) rfl hD (results_tmp rfl _ _ _) ⟨g, c', rfl, ?_, ?_⟩
    · have hk := HQ2.out.kpt (Kpt.putObj W2 (w1.heap.size + 1) (.deferred none)) (by omega)
      exact hk.mono (by omega)
    · exact below_putObj (belowK hbw2 q1 (fun b hb => by omega) (by omega)) (by omega) _
  case stop =>
    rintro c S W2 h
    exact h.elim
end Go.Proofs.Ytknhfaplddgnlaa
