/- CopyImages, of any number of images (printed by gen06q.py). -/
import Derived.Test.YtknhfaplddgnlaaRecM
namespace Go.Proofs.Ytknhfaplddgnlaa
open Go.RowKit
set_option maxHeartbeats 1000000
set_option maxRecDepth 100000
set_option linter.unusedVariables false
set_option linter.unusedSimpArgs false

theorem CopyImages_wide (w : World) (a : Option Addr) (c N : Nat) (ims : List Img) (hN : N = ims.length) (hl : ims.length ≤ 4398046511104) (hb : ∀ x ∈ ims, x.2.length ≤ 200000000000000) (hr : RdG w a ims) :
    Calls Try.prog 19 #[.slice a N c] w fun e w' => ∃ A c' av, e = .returned (.slice A N c') ∧ w'.ownsRow w.heap.size 38 2 (.slice A N c') N (imC (ims.map (·.1)) (valA av (ims.map (·.2)))) ∧ OwA w.heap.size w' av (ims.map (·.2)) ∧ Below w.heap.size w w' := by
  obtain ⟨n, hn⟩ : ∃ n, n = ims.length := ⟨_, rfl⟩
  rw [← hn] at hN
  subst hN
  obtain ⟨ns, hns⟩ : ∃ ns, ns = ims.map (·.1) := ⟨_, rfl⟩
  obtain ⟨ds, hds⟩ : ∃ ds, ds = ims.map (·.2) := ⟨_, rfl⟩
  rw [← hns, ← hds]
  have hnl : ns.length = N := by rw [hns, hn]; simp
  have hdl : ds.length = N := by rw [hds, hn]; simp
  have HN := hid hn; have HL := hid hb; have HNS := hid hns; have HDS := hid hds; have HNL := hid hnl; have HDL := hid hdl
  rw [← hn] at hl
  clear hn hb hns hds hnl hdl
  go_enter Try.func19, Try.ntmps19
  go_wp2_with fail
  go_loopw [3, 4] (fun vo i wr => ∃ k oa oc av, k ≤ N ∧ i = .int .i64 ((k : Nat) : Int) ∧ vo = .slice oa k oc ∧ wr.ownsRow w.heap.size 38 2 (.slice oa k oc) k (imC (ns.take k) (valA av (ds.take k))) ∧ OwA w.heap.size wr av (ds.take k) ∧ Below w.heap.size w wr) (fun _ i _ => N - (intOf i).toNat)
  case atStart => exact ⟨0, none, 0, [], Nat.zero_le _, rfl, rfl, World.ownsRow_nil _ _ _ _, OwA.nil _ _, Below.refl _ _⟩
  case round =>
    obtain ⟨k, oa, oc, av, hk, rfl, rfl, q1, q2, q3⟩ := hrel
    by_cases hlt : k < N
    · obtain ⟨xx, hx⟩ : ∃ x, ims[k]? = some x := ⟨ims[k]'(by rw [← HN.out]; exact hlt), List.getElem?_eq_getElem _⟩
      have hmx := List.mem_of_getElem? hx
      obtain ⟨b, off, A, cc, rfl, w1, v1, y1, z1, z2⟩ := hr.below q3 k xx hx
      have hbl : b < w.heap.size := by
        obtain ⟨b', off', A', cc', e, w1', _⟩ := hr k xx hx
        cases e
        exact World.block_lt_of_cell? w _ w1'
      have hle := HL.out xx hmx
      have tn : ns.take (k + 1) = ns.take k ++ [xx.1] := take_snoc ns k xx.1 (by rw [HNS.out]; simp [hx])
      have td : ds.take (k + 1) = ds.take k ++ [xx.2] := take_snoc ds k xx.2 (by rw [HDS.out]; simp [hx])
      obtain ⟨x, xd⟩ := xx
      dsimp only at w1 v1 y1 hle tn td
      have CB := CopyBytes_any wr.drew A cc _ xd rfl hle y1
      have hal := q2.len
      have hzw : w.heap.size ≤ wr.drew.heap.size := q3.size
      have HTN := hid tn; have HTD := hid td; have HAL := hid hal; have HX := hid hx
      have sX : wr.drew.cell? ⟨b, off + k * 2, none⟩ = some (.int .i64 x) ∧ wr.drew.cell? ⟨b, off + k * 2 + 1, none⟩ = some (.slice A xd.length cc) := ⟨w1, v1⟩
      have q1d : wr.drew.ownsRow w.heap.size 38 2 (.slice oa k oc) k (imC (ns.take k) (valA av (ds.take k))) := q1
      have hnb : ¬ blkOf oa b := fun h => by have := own_base q1 b (own_img q1 h); omega
      have q2d : OwA w.heap.size wr.drew av (ds.take k) := q2.below (kpt_below0 wr)
      have hlt2 : ∀ p ∈ av, ∀ b, blkOf p.1 b → b < wr.drew.heap.size := fun p hp b hb => (q2.u8 hp hb).1
      have FIN : ∀ (w4 : World) (A4 : Option Addr) (c4 : Nat), OwnB wr.drew.heap.size w4 A4 c4 xd → Below wr.drew.heap.size wr.drew w4 → ∀ A1 c1 (w8 : World), w8.ownsRow w.heap.size 38 2 (.slice A1 (k + 1) c1) (k + 1) (imC (ns.take k) (valA av (ds.take k)) ++ [.int .i64 x, .slice A4 xd.length c4]) →
          Kpt (fun b => blkOf oa b) (w4.alloc (.cells #[.int .i64 x, .slice A4 xd.length c4] 38)) w8 →
          w8.ownsRow w.heap.size 38 2 (.slice A1 (k + 1) c1) (k + 1) (imC (ns.take (k + 1)) (valA (av ++ [(A4, c4)]) (ds.take (k + 1)))) ∧ OwA w.heap.size w8 (av ++ [(A4, c4)]) (ds.take (k + 1)) ∧ Below w.heap.size w w8 := by
        intro w4 A4 c4 ho4 b4 A1 c1 w8 h8 K8
        have ba : Below w4.heap.size w4 (w4.alloc (.cells #[.int .i64 x, .slice A4 xd.length c4] 38)) := (Below.refl _ _).alloc (Nat.le_refl _) _
        have q15 := own_below (own_below q1d b4) ba
        have q25 := (q2d.below b4).below ba
        have ho5 := ho4.below ba
        have nT : ∀ {cs : Array Value} {t : TypeId} {b : Nat}, (w4.alloc (.cells #[.int .i64 x, .slice A4 xd.length c4] 38)).heap[b]? = some (.cells cs t (0, 0)) → t ≠ 38 → ¬ blkOf oa b := fun hc ht h => ht (row_no q15 (own_img q15 h) hc)
        have b5 := ((below_drw q3).trans (b4.mono hzw)).trans (ba.mono (Nat.le_trans hzw b4.size))
        refine ⟨?_, ?_, belowK b5 K8 (fun b hb => own_base q15 b (own_img q15 hb)) b5.size⟩
        · rw [HTN.out, HTD.out, valA_snoc HAL.out, imC_snoc]
          · exact h8
          · rw [valA_length _ _ HAL.out, List.length_take, List.length_take, HNL.out, HDL.out]
        · rw [HTD.out]
          refine (q25.kpt K8 (fun p hp b hb => ?_)).snoc ((ho5.kptA K8 (fun b hb => ?_)).mono hzw) (fun p hp b h1 h2 => ?_)
          · obtain ⟨_, cs, hc⟩ := q25.u8 hp hb
            exact nT hc (by decide)
          · obtain ⟨g', e⟩ := blk_adr ho5 hb
            subst e
            have e2 : g' = b := by simpa [blkOf] using hb
            subst e2
            obtain ⟨cur, hc, _⟩ := ho5.row
            exact nT hc (by decide)
          · have h3 := hlt2 p hp b h1
            have h4 := (ho4.blk h2).1
            omega
      have HFIN := hid FIN
      clear FIN hx tn td hal q1 q2 q3 q2d hlt2 w1 v1 y1 z1 z2 hmx
      go_wp2_with fail
      refine wp_region_held_drew (S := fun W1 => W1.cell? ⟨b, off + k * 2, none⟩ = some (.int .i64 x) ∧ W1.cell? ⟨b, off + k * 2 + 1, none⟩ = some (.slice A xd.length cc)) (by kernel_rfl) (by exact sX) (fun hHeld => ?_)
      refine wpAnyH_take (i := 0) (oi := ?o0z1) (v := ?v0z1) ?hi0z1 (by kernel_rfl) (by kernel_rfl) ?hr0z1 ?hQ0z1 ?hy0z1 hHeld ?r0z1
      case hi0z1 => (simp only [List.getElem?_toArray, List.getElem?_cons_zero, List.getElem?_cons_succ]; rfl)
      case hr0z1 => kernel_rfl
      case hQ0z1 => exact fun _ _ _ h => h
      case hy0z1 => (refine Or.inl ⟨by rfl, ?_⟩; intro w hSw; (try dsimp only at hSw); go_simp; try with_reducible rfl)
      try simp only [Act.put, List.setIfInBounds_toArray, List.set_cons_zero, List.set_cons_succ]
      refine wpAnyH_take (i := 1) (oi := ?o1z1) (v := ?v1z1) ?hi1z1 (by kernel_rfl) (by kernel_rfl) ?hr1z1 ?hQ1z1 ?hy1z1 hHeld ?r1z1
      case hi1z1 => (simp only [List.getElem?_toArray, List.getElem?_cons_zero, List.getElem?_cons_succ]; rfl)
      case hr1z1 => kernel_rfl
      case hQ1z1 => exact fun _ _ _ h => h
      case hy1z1 => (refine Or.inl ⟨by rfl, ?_⟩; intro w hSw; (try dsimp only at hSw); go_simp; try with_reducible rfl)
      try simp only [Act.put, List.setIfInBounds_toArray, List.set_cons_zero, List.set_cons_succ]
      refine wpAnyH_take (i := 2) (oi := ?o2z1) (v := ?v2z1) ?hi2z1 (by kernel_rfl) (by kernel_rfl) ?hr2z1 ?hQ2z1 ?hy2z1 hHeld ?r2z1
      case hi2z1 => (simp only [List.getElem?_toArray, List.getElem?_cons_zero, List.getElem?_cons_succ]; rfl)
      case hr2z1 => kernel_rfl
      case hQ2z1 => exact fun _ _ _ h => h
      case hy2z1 => (refine Or.inl ⟨by rfl, ?_⟩; intro w hSw; (try dsimp only at hSw); go_simp; try with_reducible rfl)
      try simp only [Act.put, List.setIfInBounds_toArray, List.set_cons_zero, List.set_cons_succ]
      refine wpAnyH_take (i := 3) (oi := ?o3z1) (v := ?v3z1) ?hi3z1 (by kernel_rfl) (by kernel_rfl) ?hr3z1 ?hQ3z1 ?hy3z1 hHeld ?r3z1
      case hi3z1 => (simp only [List.getElem?_toArray, List.getElem?_cons_zero, List.getElem?_cons_succ]; rfl)
      case hr3z1 => kernel_rfl
      case hQ3z1 => exact fun _ _ _ h => h
      case hy3z1 => (refine Or.inl ⟨by rfl, ?_⟩; intro w hSw; (try dsimp only at hSw); go_simp; try with_reducible rfl)
      try simp only [Act.put, List.setIfInBounds_toArray, List.set_cons_zero, List.set_cons_succ]
      refine wpAnyH_take (i := 4) (oi := ?o4z1) (v := ?v4z1) ?hi4z1 (by kernel_rfl) (by kernel_rfl) ?hr4z1 ?hQ4z1 ?hy4z1 hHeld ?r4z1
      case hi4z1 => (simp only [List.getElem?_toArray, List.getElem?_cons_zero, List.getElem?_cons_succ]; rfl)
      case hr4z1 => kernel_rfl
      case hQ4z1 => exact fun _ _ _ h => h
      case hy4z1 => (refine Or.inl ⟨by rfl, ?_⟩; intro w hSw; (try dsimp only at hSw); go_simp; try with_reducible rfl)
      try simp only [Act.put, List.setIfInBounds_toArray, List.set_cons_zero, List.set_cons_succ]
      refine wpAnyH_take (i := 5) (oi := ?o5z1) (v := ?v5z1) ?hi5z1 (by kernel_rfl) (by kernel_rfl) ?hr5z1 ?hQ5z1 ?hy5z1 hHeld ?r5z1
      case hi5z1 => (simp only [List.getElem?_toArray, List.getElem?_cons_zero, List.getElem?_cons_succ]; rfl)
      case hr5z1 => kernel_rfl
      case hQ5z1 => exact fun _ _ _ h => h
      case hy5z1 => (refine Or.inl ⟨by rfl, ?_⟩; intro w hSw; (try dsimp only at hSw); go_simp; try with_reducible rfl)
      try simp only [Act.put, List.setIfInBounds_toArray, List.set_cons_zero, List.set_cons_succ]
      refine wpAnyH_take (i := 6) (oi := ?o6z1) (v := ?v6z1) ?hi6z1 (by kernel_rfl) (by kernel_rfl) ?hr6z1 ?hQ6z1 ?hy6z1 hHeld ?r6z1
      case hi6z1 => (simp only [List.getElem?_toArray, List.getElem?_cons_zero, List.getElem?_cons_succ]; rfl)
      case hr6z1 => kernel_rfl
      case hQ6z1 => exact fun _ _ _ h => h
      case hy6z1 => (refine Or.inl ⟨by rfl, ?_⟩; intro w hSw; (try dsimp only at hSw); go_simp; try with_reducible rfl)
      try simp only [Act.put, List.setIfInBounds_toArray, List.set_cons_zero, List.set_cons_succ]
      refine wpAnyH_take (i := 7) (oi := ?o7z1) (v := ?v7z1) ?hi7z1 (by kernel_rfl) (by kernel_rfl) ?hr7z1 ?hQ7z1 ?hy7z1 hHeld ?r7z1
      case hi7z1 => (simp only [List.getElem?_toArray, List.getElem?_cons_zero, List.getElem?_cons_succ]; rfl)
      case hr7z1 => kernel_rfl
      case hQ7z1 => exact fun _ _ _ h => h
      case hy7z1 => (refine Or.inl ⟨by rfl, ?_⟩; intro w hSw; (try dsimp only at hSw); go_simp; try with_reducible rfl)
      try simp only [Act.put, List.setIfInBounds_toArray, List.set_cons_zero, List.set_cons_succ]
      refine wpAnyH_take (i := 8) (oi := ?o8z1) (v := ?v8z1) ?hi8z1 (by kernel_rfl) (by kernel_rfl) ?hr8z1 ?hQ8z1 ?hy8z1 hHeld ?r8z1
      case hi8z1 => (simp only [List.getElem?_toArray, List.getElem?_cons_zero, List.getElem?_cons_succ]; rfl)
      case hr8z1 => kernel_rfl
      case hQ8z1 => exact fun _ _ _ h => h
      case hy8z1 => (refine Or.inl ⟨by rfl, ?_⟩; intro w hSw; (try dsimp only at hSw); go_simp; try with_reducible rfl)
      try simp only [Act.put, List.setIfInBounds_toArray, List.set_cons_zero, List.set_cons_succ]
      refine wpAnyH_take (i := 9) (oi := ?o9z1) (v := ?v9z1) ?hi9z1 (by kernel_rfl) (by kernel_rfl) ?hr9z1 ?hQ9z1 ?hy9z1 hHeld ?r9z1
      case hi9z1 => (simp only [List.getElem?_toArray, List.getElem?_cons_zero, List.getElem?_cons_succ]; rfl)
      case hr9z1 => kernel_rfl
      case hQ9z1 => exact fun _ _ _ h => h
      case hy9z1 => (refine Or.inl ⟨by rfl, ?_⟩; intro w hSw; (try dsimp only at hSw); go_simp; try with_reducible rfl)
      try simp only [Act.put, List.setIfInBounds_toArray, List.set_cons_zero, List.set_cons_succ]
      refine wpAnyH_take (i := 10) (oi := ?o10z1) (v := ?v10z1) ?hi10z1 (by kernel_rfl) (by kernel_rfl) ?hr10z1 ?hQ10z1 ?hy10z1 hHeld ?r10z1
      case hi10z1 => (simp only [List.getElem?_toArray, List.getElem?_cons_zero, List.getElem?_cons_succ]; rfl)
      case hr10z1 => kernel_rfl
      case hQ10z1 => exact fun _ _ _ h => h
      case hy10z1 => (refine Or.inl ⟨by rfl, ?_⟩; intro w hSw; (try dsimp only at hSw); go_simp; try with_reducible rfl)
      try simp only [Act.put, List.setIfInBounds_toArray, List.set_cons_zero, List.set_cons_succ]
      refine wpAnyH_ready (rs := [11]) (by kernel_rfl) (by simp) (AllReadyH.cons (o := ?o11z1) ?hi11z1 (fun K hK => ?r11z1) AllReadyH.nil)
      case hi11z1 => (simp only [List.getElem?_toArray, List.getElem?_cons_zero, List.getElem?_cons_succ]; rfl)
      go_simp
      refine CB.mono ?_
      rintro e w4 ⟨A4, c4, rfl, ho4, b4⟩
      have s4 := And.intro (cell_below b4 sX.1) (cell_below b4 sX.2)
      have q14 := own_below q1d b4
      have hz4 := b4.size
      have ba : Below w4.heap.size w4 (w4.alloc (.cells #[.int .i64 x, .slice A4 xd.length c4] 38)) := (Below.refl _ _).alloc (Nat.le_refl _) _
      have s4a := And.intro (cell_below ba s4.1) (cell_below ba s4.2)
      have Q15 := hid (own_below q14 ba)
      have R5 : RdV (w4.alloc (.cells #[.int .i64 x, .slice A4 xd.length c4] 38)) (some ⟨w4.heap.size, 0, none⟩) [.int .i64 x, .slice A4 xd.length c4] := RdV.new w4 #[.int .i64 x, .slice A4 xd.length c4] 38
      have hz5 : w.heap.size ≤ (w4.alloc (.cells #[.int .i64 x, .slice A4 xd.length c4] 38)).heap.size := Nat.le_trans (Nat.le_trans hzw hz4) ba.size
      clear q14
      refine hK.out _ _ (by exact s4) (fun hHeld => ?_)
      clear hK K
      try simp only [Act.put, List.setIfInBounds_toArray, List.set_cons_zero, List.set_cons_succ]
      refine wpAnyH_take (i := 12) (oi := ?o12z1) (v := ?v12z1) ?hi12z1 (by kernel_rfl) (by kernel_rfl) ?hr12z1 ?hQ12z1 ?hy12z1 hHeld ?r12z1
      case hi12z1 => (simp only [List.getElem?_toArray, List.getElem?_cons_zero, List.getElem?_cons_succ]; rfl)
      case hr12z1 => kernel_rfl
      case hQ12z1 => exact fun _ _ _ h => h
      case hy12z1 => (refine Or.inl ⟨by rfl, ?_⟩; intro w hSw; (try dsimp only at hSw); go_simp; try with_reducible rfl)
      try simp only [Act.put, List.setIfInBounds_toArray, List.set_cons_zero, List.set_cons_succ]
      refine wpAnyH_ready (rs := [13]) (by kernel_rfl) (by simp) (AllReadyH.cons (o := ?o13z1) ?hi13z1 (fun K hK => ?r13z1) AllReadyH.nil)
      case hi13z1 => (simp only [List.getElem?_toArray, List.getElem?_cons_zero, List.getElem?_cons_succ]; rfl)
      go_simp
      refine hK.out _ _ (by exact s4a) (fun hHeld => ?_)
      clear hK K
      try simp only [Act.put, List.setIfInBounds_toArray, List.set_cons_zero, List.set_cons_succ]
      refine wpAnyH_ready (rs := [14]) (by kernel_rfl) (by simp) (AllReadyH.cons (o := ?o14z1) ?hi14z1 (fun K hK => ?r14z1) AllReadyH.nil)
      case hi14z1 => (simp only [List.getElem?_toArray, List.getElem?_cons_zero, List.getElem?_cons_succ]; rfl)
      refine step_own rfl (.tmp 11) (.tmp 24) 26 38 (.agg #[.int .i64 0, .slice none 0 0]) 2 32 rfl Try.underlying26 info_I rfl (by decide) (by decide) w.heap.size oa oc k (imC (ns.take k) (valA av (ds.take k))) rfl Q15.out (some ⟨w4.heap.size, 0, none⟩) 1 1 [.int .i64 x, .slice A4 xd.length c4] rfl rfl R5 (by simp [Value.oneCell']) (by omega) hz5 ?_
      intro A1 c1 w8 h8 K8 hA8
      have s8 := And.intro (K8.cell s4a.1 hnb) (K8.cell s4a.2 hnb)
      have H8 := hid h8
      clear h8
      refine hK.out _ _ (by exact s8) (fun hHeld => ?_)
      clear hK K
      try simp only [Act.put, List.setIfInBounds_toArray, List.set_cons_zero, List.set_cons_succ]
      refine wpAnyH_take (i := 15) (oi := ?o15z1) (v := ?v15z1) ?hi15z1 (by kernel_rfl) (by kernel_rfl) ?hr15z1 ?hQ15z1 ?hy15z1 hHeld ?r15z1
      case hi15z1 => (simp only [List.getElem?_toArray, List.getElem?_cons_zero, List.getElem?_cons_succ]; rfl)
      case hr15z1 => kernel_rfl
      case hQ15z1 => exact fun _ _ _ h => h
      case hy15z1 => (refine Or.inl ⟨by rfl, ?_⟩; intro w hSw; (try dsimp only at hSw); go_simp; try with_reducible rfl)
      try simp only [Act.put, List.setIfInBounds_toArray, List.set_cons_zero, List.set_cons_succ]
      refine wpAnyH_done (by kernel_rfl) ?_ _
      go_wp2_with fail
      go_roundw
      case rel =>
        obtain ⟨f1, f2, f3⟩ := HFIN.out w4 A4 c4 ho4 b4 A1 c1 w8 H8.out K8
        exact ⟨k + 1, A1, c1, av ++ [(A4, c4)], by omega, by go_num, rfl, f1, f2, f3⟩
      case measure => simp [intOf]; omega
    · obtain rfl : k = N := by omega
      rw [List.take_of_length_le (by rw [HNL.out]; exact Nat.le_refl _)] at q1
      rw [List.take_of_length_le (by rw [HDL.out]; exact Nat.le_refl _)] at q1 q2
      go_wp2
      go_ret
      exact ⟨oa, oc, av, rfl, q1, q2, q3⟩
end Go.Proofs.Ytknhfaplddgnlaa
