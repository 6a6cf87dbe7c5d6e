/- ledgerstonelow: SameLists, CopyLists, SameImages, CopyImages, SameGroup (printed by gen06c.py). -/
import Derived.Test.YtknhfaplddgnlaaRecH
import Derived.Deep.RegionHeld3
namespace Go.Proofs.Ytknhfaplddgnlaa
open Go.RowKit
set_option maxHeartbeats 1000000
set_option maxRecDepth 100000
set_option linter.unusedVariables false
set_option linter.unusedSimpArgs false

/-- Lists of bytes lie there. -/
def RdLs (w : World) (a : Option Addr) (ls : List (List UInt8)) : Prop :=
  ∀ (i : Nat) (l : List UInt8), ls[i]? = some l → ∃ b off A c, a = some ⟨b, off, none⟩ ∧ w.cell? ⟨b, off + i, none⟩ = some (.slice A l.length c) ∧ RdB w A l ∧ l.length ≤ c ∧ c ≤ 9223372036854775807
theorem RdLs.below {w w' : World} {a : Option Addr} {ls : List (List UInt8)} (h : RdLs w a ls) (k : Below w.heap.size w w') : RdLs w' a ls := by
  intro i l hl
  obtain ⟨b, off, A, c, h1, h2, h3, h4⟩ := h i l hl
  exact ⟨b, off, A, c, h1, cell_below k h2, h3.below k, h4⟩
theorem SameLists_any (w : World) (a a' : Option Addr) (c c' N M : Nat) (l r : List (List UInt8)) (hN : N = l.length) (hM : M = r.length) (hl : l.length ≤ 1000000) (h1 : RdLs w a l) (h2 : RdLs w a' r) :
    Calls Try.prog 22 #[.slice a N c, .slice a' M c'] w fun e w' => e = .returned (.bool (decide (l = r))) ∧ Below w.heap.size w w' := by
  subst hN hM
  by_cases hlen : l.length = r.length
  · have hlen' : ((l.length : Int) != (r.length : Int)) = false := by simpa using (show (l.length : Int) = (r.length : Int) by omega)
    have hM : r.length ≤ 1000000 := by omega
    obtain ⟨n, hn⟩ : ∃ n, n = l.length := ⟨_, rfl⟩
    have hn2 : r.length = n := by omega
    rw [← hn, hn2]
    rw [← hn, hn2] at hlen'
    have HN := hid hn; have HN2 := hid hn2
    have hnb : n ≤ 1000000 := by omega
    clear hlen hn hn2 hl hM
    go_enter Try.func22, Try.ntmps22
    go_wp2_with fail
    go_loopw [5] (fun i wr => ∃ k : Nat, k ≤ n ∧ i = .int .i64 k ∧ (∀ j, j < k → l[j]? = r[j]?) ∧ Below w.heap.size w wr) (fun i _ => n - (intOf i).toNat)
    case atStart => exact ⟨0, Nat.zero_le _, rfl, fun j hj => absurd hj (Nat.not_lt_zero _), Below.refl _ _⟩
    case round =>
      obtain ⟨k, hk, rfl, hs, hb⟩ := hrel
      by_cases hlt : k < n
      · have e1 : l[k]? = some (l[k]'(by rw [← HN.out]; exact hlt)) := List.getElem?_eq_getElem _
        have e2 : r[k]? = some (r[k]'(by rw [HN2.out]; exact hlt)) := List.getElem?_eq_getElem _
        obtain ⟨b1, o1, A1, c1, rfl, x1, y1, z1⟩ := h1.below hb k _ e1
        obtain ⟨b2, o2, A2, c2, rfl, x2, y2, z2⟩ := h2.below hb k _ e2
        have SB := SameBytes_any wr.drew A1 A2 c1 c2 _ _ _ _ rfl rfl y1 y2
        have sX : wr.drew.cell? ⟨b1, o1 + k, none⟩ = some (.slice A1 (l[k]'(by rw [← HN.out]; exact hlt)).length c1) ∧ wr.drew.cell? ⟨b2, o2 + k, none⟩ = some (.slice A2 (r[k]'(by rw [HN2.out]; exact hlt)).length c2) := ⟨x1, x2⟩
        generalize hlk : l[k]'(by rw [← HN.out]; exact hlt) = lk at *
        generalize hrk : r[k]'(by rw [HN2.out]; exact hlt) = rk at *
        have HS := hid hs; have HB := hid hb; have E1 := hid e1; have E2 := hid e2
        clear hs hb e1 e2 x1 x2 y1 y2 z1 z2 h1 h2 hlk hrk
        rcases ht : (lk == rk)
        · rw [ht] at SB
          have HT := hid ht
          clear ht
          go_wp2_with fail
          refine wp_region_held_drew (S := fun W1 => W1.cell? ⟨b1, o1 + k, none⟩ = some (.slice A1 lk.length c1) ∧ W1.cell? ⟨b2, o2 + k, none⟩ = some (.slice A2 rk.length c2)) (by kernel_rfl) (by exact sX) (fun hHeld => ?_)
          refine wpAnyH_take (i := 0) (oi := ?o0z2) (v := ?v0z2) ?hi0z2 (by kernel_rfl) (by kernel_rfl) ?hr0z2 ?hQ0z2 ?hy0z2 hHeld ?r0z2
          case hi0z2 => (simp only [List.getElem?_toArray, List.getElem?_cons_zero, List.getElem?_cons_succ]; rfl)
          case hr0z2 => kernel_rfl
          case hQ0z2 => exact fun _ _ _ h => h
          case hy0z2 => (refine Or.inl ⟨by rfl, ?_⟩; intro w hSw; (try dsimp only at hSw); go_simp; try with_reducible rfl)
          try simp only [Act.put, List.setIfInBounds_toArray, List.set_cons_zero, List.set_cons_succ]
          refine wpAnyH_take (i := 1) (oi := ?o1z2) (v := ?v1z2) ?hi1z2 (by kernel_rfl) (by kernel_rfl) ?hr1z2 ?hQ1z2 ?hy1z2 hHeld ?r1z2
          case hi1z2 => (simp only [List.getElem?_toArray, List.getElem?_cons_zero, List.getElem?_cons_succ]; rfl)
          case hr1z2 => kernel_rfl
          case hQ1z2 => exact fun _ _ _ h => h
          case hy1z2 => (refine Or.inl ⟨by rfl, ?_⟩; intro w hSw; (try dsimp only at hSw); go_simp; try with_reducible rfl)
          try simp only [Act.put, List.setIfInBounds_toArray, List.set_cons_zero, List.set_cons_succ]
          refine wpAnyH_take (i := 2) (oi := ?o2z2) (v := ?v2z2) ?hi2z2 (by kernel_rfl) (by kernel_rfl) ?hr2z2 ?hQ2z2 ?hy2z2 hHeld ?r2z2
          case hi2z2 => (simp only [List.getElem?_toArray, List.getElem?_cons_zero, List.getElem?_cons_succ]; rfl)
          case hr2z2 => kernel_rfl
          case hQ2z2 => exact fun _ _ _ h => h
          case hy2z2 => (refine Or.inl ⟨by rfl, ?_⟩; intro w hSw; (try dsimp only at hSw); go_simp; try with_reducible rfl)
          try simp only [Act.put, List.setIfInBounds_toArray, List.set_cons_zero, List.set_cons_succ]
          refine wpAnyH_take (i := 3) (oi := ?o3z2) (v := ?v3z2) ?hi3z2 (by kernel_rfl) (by kernel_rfl) ?hr3z2 ?hQ3z2 ?hy3z2 hHeld ?r3z2
          case hi3z2 => (simp only [List.getElem?_toArray, List.getElem?_cons_zero, List.getElem?_cons_succ]; rfl)
          case hr3z2 => kernel_rfl
          case hQ3z2 => exact fun _ _ _ h => h
          case hy3z2 => (refine Or.inl ⟨by rfl, ?_⟩; intro w hSw; (try dsimp only at hSw); go_simp; try with_reducible rfl)
          try simp only [Act.put, List.setIfInBounds_toArray, List.set_cons_zero, List.set_cons_succ]
          refine wpAnyH_take (i := 4) (oi := ?o4z2) (v := ?v4z2) ?hi4z2 (by kernel_rfl) (by kernel_rfl) ?hr4z2 ?hQ4z2 ?hy4z2 hHeld ?r4z2
          case hi4z2 => (simp only [List.getElem?_toArray, List.getElem?_cons_zero, List.getElem?_cons_succ]; rfl)
          case hr4z2 => kernel_rfl
          case hQ4z2 => exact fun _ _ _ h => h
          case hy4z2 => (refine Or.inl ⟨by rfl, ?_⟩; intro w hSw; (try dsimp only at hSw); go_simp; try with_reducible rfl)
          try simp only [Act.put, List.setIfInBounds_toArray, List.set_cons_zero, List.set_cons_succ]
          refine wpAnyH_take (i := 5) (oi := ?o5z2) (v := ?v5z2) ?hi5z2 (by kernel_rfl) (by kernel_rfl) ?hr5z2 ?hQ5z2 ?hy5z2 hHeld ?r5z2
          case hi5z2 => (simp only [List.getElem?_toArray, List.getElem?_cons_zero, List.getElem?_cons_succ]; rfl)
          case hr5z2 => kernel_rfl
          case hQ5z2 => exact fun _ _ _ h => h
          case hy5z2 => (refine Or.inl ⟨by rfl, ?_⟩; intro w hSw; (try dsimp only at hSw); go_simp; try with_reducible rfl)
          try simp only [Act.put, List.setIfInBounds_toArray, List.set_cons_zero, List.set_cons_succ]
          refine wpAnyH_take (i := 6) (oi := ?o6z2) (v := ?v6z2) ?hi6z2 (by kernel_rfl) (by kernel_rfl) ?hr6z2 ?hQ6z2 ?hy6z2 hHeld ?r6z2
          case hi6z2 => (simp only [List.getElem?_toArray, List.getElem?_cons_zero, List.getElem?_cons_succ]; rfl)
          case hr6z2 => kernel_rfl
          case hQ6z2 => exact fun _ _ _ h => h
          case hy6z2 => (refine Or.inl ⟨by rfl, ?_⟩; intro w hSw; (try dsimp only at hSw); go_simp; try with_reducible rfl)
          try simp only [Act.put, List.setIfInBounds_toArray, List.set_cons_zero, List.set_cons_succ]
          refine wpAnyH_take (i := 7) (oi := ?o7z2) (v := ?v7z2) ?hi7z2 (by kernel_rfl) (by kernel_rfl) ?hr7z2 ?hQ7z2 ?hy7z2 hHeld ?r7z2
          case hi7z2 => (simp only [List.getElem?_toArray, List.getElem?_cons_zero, List.getElem?_cons_succ]; rfl)
          case hr7z2 => kernel_rfl
          case hQ7z2 => exact fun _ _ _ h => h
          case hy7z2 => (refine Or.inl ⟨by rfl, ?_⟩; intro w hSw; (try dsimp only at hSw); go_simp; try with_reducible rfl)
          try simp only [Act.put, List.setIfInBounds_toArray, List.set_cons_zero, List.set_cons_succ]
          refine wpAnyH_ready (rs := [8]) (by kernel_rfl) (by simp) (AllReadyH.cons (o := ?o8z2) ?hi8z2 (fun K hK => ?r8z2) AllReadyH.nil)
          case hi8z2 => (simp only [List.getElem?_toArray, List.getElem?_cons_zero, List.getElem?_cons_succ]; rfl)
          go_simp
          refine SB.mono ?_
          rintro e w' ⟨rfl, rfl⟩
          refine hK.out _ _ (by exact sX) (fun hHeld => ?_)
          clear hK K
          try simp only [Act.put, List.setIfInBounds_toArray, List.set_cons_zero, List.set_cons_succ]
          refine wpAnyH_take (i := 9) (oi := ?o9z2) (v := ?v9z2) ?hi9z2 (by kernel_rfl) (by kernel_rfl) ?hr9z2 ?hQ9z2 ?hy9z2 hHeld ?r9z2
          case hi9z2 => (simp only [List.getElem?_toArray, List.getElem?_cons_zero, List.getElem?_cons_succ]; rfl)
          case hr9z2 => kernel_rfl
          case hQ9z2 => exact fun _ _ _ h => h
          case hy9z2 => (refine Or.inl ⟨by rfl, ?_⟩; intro w hSw; (try dsimp only at hSw); go_simp; try with_reducible rfl)
          try simp only [Act.put, List.setIfInBounds_toArray, List.set_cons_zero, List.set_cons_succ]
          refine wpAnyH_done (by kernel_rfl) ?_ _
          go_wp2
          go_ret
          refine ⟨?_, below_drw HB.out⟩
          have hne : ¬ l = r := by
            rintro rfl
            have := E1.out.symm.trans E2.out
            rw [Option.some.inj this] at HT
            have h3 := HT.out
            simp at h3
          rw [decide_eq_false hne]
          rfl
        · rw [ht] at SB
          have HT := hid ht
          clear ht
          go_wp2_with fail
          refine wp_region_held_drew (S := fun W1 => W1.cell? ⟨b1, o1 + k, none⟩ = some (.slice A1 lk.length c1) ∧ W1.cell? ⟨b2, o2 + k, none⟩ = some (.slice A2 rk.length c2)) (by kernel_rfl) (by exact sX) (fun hHeld => ?_)
          refine wpAnyH_take (i := 0) (oi := ?o0z3) (v := ?v0z3) ?hi0z3 (by kernel_rfl) (by kernel_rfl) ?hr0z3 ?hQ0z3 ?hy0z3 hHeld ?r0z3
          case hi0z3 => (simp only [List.getElem?_toArray, List.getElem?_cons_zero, List.getElem?_cons_succ]; rfl)
          case hr0z3 => kernel_rfl
          case hQ0z3 => exact fun _ _ _ h => h
          case hy0z3 => (refine Or.inl ⟨by rfl, ?_⟩; intro w hSw; (try dsimp only at hSw); go_simp; try with_reducible rfl)
          try simp only [Act.put, List.setIfInBounds_toArray, List.set_cons_zero, List.set_cons_succ]
          refine wpAnyH_take (i := 1) (oi := ?o1z3) (v := ?v1z3) ?hi1z3 (by kernel_rfl) (by kernel_rfl) ?hr1z3 ?hQ1z3 ?hy1z3 hHeld ?r1z3
          case hi1z3 => (simp only [List.getElem?_toArray, List.getElem?_cons_zero, List.getElem?_cons_succ]; rfl)
          case hr1z3 => kernel_rfl
          case hQ1z3 => exact fun _ _ _ h => h
          case hy1z3 => (refine Or.inl ⟨by rfl, ?_⟩; intro w hSw; (try dsimp only at hSw); go_simp; try with_reducible rfl)
          try simp only [Act.put, List.setIfInBounds_toArray, List.set_cons_zero, List.set_cons_succ]
          refine wpAnyH_take (i := 2) (oi := ?o2z3) (v := ?v2z3) ?hi2z3 (by kernel_rfl) (by kernel_rfl) ?hr2z3 ?hQ2z3 ?hy2z3 hHeld ?r2z3
          case hi2z3 => (simp only [List.getElem?_toArray, List.getElem?_cons_zero, List.getElem?_cons_succ]; rfl)
          case hr2z3 => kernel_rfl
          case hQ2z3 => exact fun _ _ _ h => h
          case hy2z3 => (refine Or.inl ⟨by rfl, ?_⟩; intro w hSw; (try dsimp only at hSw); go_simp; try with_reducible rfl)
          try simp only [Act.put, List.setIfInBounds_toArray, List.set_cons_zero, List.set_cons_succ]
          refine wpAnyH_take (i := 3) (oi := ?o3z3) (v := ?v3z3) ?hi3z3 (by kernel_rfl) (by kernel_rfl) ?hr3z3 ?hQ3z3 ?hy3z3 hHeld ?r3z3
          case hi3z3 => (simp only [List.getElem?_toArray, List.getElem?_cons_zero, List.getElem?_cons_succ]; rfl)
          case hr3z3 => kernel_rfl
          case hQ3z3 => exact fun _ _ _ h => h
          case hy3z3 => (refine Or.inl ⟨by rfl, ?_⟩; intro w hSw; (try dsimp only at hSw); go_simp; try with_reducible rfl)
          try simp only [Act.put, List.setIfInBounds_toArray, List.set_cons_zero, List.set_cons_succ]
          refine wpAnyH_take (i := 4) (oi := ?o4z3) (v := ?v4z3) ?hi4z3 (by kernel_rfl) (by kernel_rfl) ?hr4z3 ?hQ4z3 ?hy4z3 hHeld ?r4z3
          case hi4z3 => (simp only [List.getElem?_toArray, List.getElem?_cons_zero, List.getElem?_cons_succ]; rfl)
          case hr4z3 => kernel_rfl
          case hQ4z3 => exact fun _ _ _ h => h
          case hy4z3 => (refine Or.inl ⟨by rfl, ?_⟩; intro w hSw; (try dsimp only at hSw); go_simp; try with_reducible rfl)
          try simp only [Act.put, List.setIfInBounds_toArray, List.set_cons_zero, List.set_cons_succ]
          refine wpAnyH_take (i := 5) (oi := ?o5z3) (v := ?v5z3) ?hi5z3 (by kernel_rfl) (by kernel_rfl) ?hr5z3 ?hQ5z3 ?hy5z3 hHeld ?r5z3
          case hi5z3 => (simp only [List.getElem?_toArray, List.getElem?_cons_zero, List.getElem?_cons_succ]; rfl)
          case hr5z3 => kernel_rfl
          case hQ5z3 => exact fun _ _ _ h => h
          case hy5z3 => (refine Or.inl ⟨by rfl, ?_⟩; intro w hSw; (try dsimp only at hSw); go_simp; try with_reducible rfl)
          try simp only [Act.put, List.setIfInBounds_toArray, List.set_cons_zero, List.set_cons_succ]
          refine wpAnyH_take (i := 6) (oi := ?o6z3) (v := ?v6z3) ?hi6z3 (by kernel_rfl) (by kernel_rfl) ?hr6z3 ?hQ6z3 ?hy6z3 hHeld ?r6z3
          case hi6z3 => (simp only [List.getElem?_toArray, List.getElem?_cons_zero, List.getElem?_cons_succ]; rfl)
          case hr6z3 => kernel_rfl
          case hQ6z3 => exact fun _ _ _ h => h
          case hy6z3 => (refine Or.inl ⟨by rfl, ?_⟩; intro w hSw; (try dsimp only at hSw); go_simp; try with_reducible rfl)
          try simp only [Act.put, List.setIfInBounds_toArray, List.set_cons_zero, List.set_cons_succ]
          refine wpAnyH_take (i := 7) (oi := ?o7z3) (v := ?v7z3) ?hi7z3 (by kernel_rfl) (by kernel_rfl) ?hr7z3 ?hQ7z3 ?hy7z3 hHeld ?r7z3
          case hi7z3 => (simp only [List.getElem?_toArray, List.getElem?_cons_zero, List.getElem?_cons_succ]; rfl)
          case hr7z3 => kernel_rfl
          case hQ7z3 => exact fun _ _ _ h => h
          case hy7z3 => (refine Or.inl ⟨by rfl, ?_⟩; intro w hSw; (try dsimp only at hSw); go_simp; try with_reducible rfl)
          try simp only [Act.put, List.setIfInBounds_toArray, List.set_cons_zero, List.set_cons_succ]
          refine wpAnyH_ready (rs := [8]) (by kernel_rfl) (by simp) (AllReadyH.cons (o := ?o8z3) ?hi8z3 (fun K hK => ?r8z3) AllReadyH.nil)
          case hi8z3 => (simp only [List.getElem?_toArray, List.getElem?_cons_zero, List.getElem?_cons_succ]; rfl)
          go_simp
          refine SB.mono ?_
          rintro e w' ⟨rfl, rfl⟩
          refine hK.out _ _ (by exact sX) (fun hHeld => ?_)
          clear hK K
          try simp only [Act.put, List.setIfInBounds_toArray, List.set_cons_zero, List.set_cons_succ]
          refine wpAnyH_take (i := 9) (oi := ?o9z3) (v := ?v9z3) ?hi9z3 (by kernel_rfl) (by kernel_rfl) ?hr9z3 ?hQ9z3 ?hy9z3 hHeld ?r9z3
          case hi9z3 => (simp only [List.getElem?_toArray, List.getElem?_cons_zero, List.getElem?_cons_succ]; rfl)
          case hr9z3 => kernel_rfl
          case hQ9z3 => exact fun _ _ _ h => h
          case hy9z3 => (refine Or.inl ⟨by rfl, ?_⟩; intro w hSw; (try dsimp only at hSw); go_simp; try with_reducible rfl)
          try simp only [Act.put, List.setIfInBounds_toArray, List.set_cons_zero, List.set_cons_succ]
          refine wpAnyH_done (by kernel_rfl) ?_ _
          go_wp2_with fail
          refine ⟨⟨k + 1, by omega, by go_num, fun j hj => ?_, below_drw HB.out⟩, by simp [intOf]; omega⟩
          by_cases hjk : j < k
          · exact HS.out j hjk
          · have : j = k := by omega
            subst this
            rw [E1.out, E2.out]
            have h3 := HT.out
            rw [beq_iff_eq] at h3
            rw [h3]
      · obtain rfl : k = n := by omega
        have he : l = r := by
          refine List.ext_getElem? fun j => ?_
          by_cases hj : j < k
          · exact hs j hj
          · rw [List.getElem?_eq_none (by rw [← HN.out]; omega), List.getElem?_eq_none (by rw [HN2.out]; omega)]
        have HE := hid he; have HB := hid hb
        clear hs he h1 h2
        go_wp2
        go_ret
        exact ⟨by rw [decide_eq_true HE.out]; rfl, HB.out⟩
  · have hlen' : ((l.length : Int) == (r.length : Int)) = false := by simpa using (show ¬ ((l.length : Int) = (r.length : Int)) by omega)
    have hne : ¬ l = r := fun e => hlen (by rw [e])
    have HE := hid (decide_eq_false hne)
    clear hne h1 h2 hlen
    go_enter Try.func22, Try.ntmps22
    go_wp2
    go_ret
    exact ⟨by rw [HE.out]; rfl, Below.refl _ _⟩
end Go.Proofs.Ytknhfaplddgnlaa
