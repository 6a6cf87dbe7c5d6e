/- ledgerstonelow: CopyLists, SameImages, CopyImages, SameGroup (printed by gen06d.py). -/
import Derived.Test.YtknhfaplddgnlaaRecL
namespace Go.Proofs.Ytknhfaplddgnlaa
open Go.RowKit
set_option maxHeartbeats 1000000
set_option maxRecDepth 100000
set_option linter.unusedVariables false
set_option linter.unusedSimpArgs false

/-- Copies, each in memory of its own. -/
structure OwA (base : Nat) (w : World) (av : List (Option Addr × Nat)) (ls : List (List UInt8)) : Prop where
  len : av.length = ls.length
  own : ∀ (i : Nat) (p : Option Addr × Nat) (l : List UInt8), av[i]? = some p → ls[i]? = some l → OwnB base w p.1 p.2 l
  dif : ∀ (i j : Nat) (p q : Option Addr × Nat) (b : Nat), i < j → av[i]? = some p → av[j]? = some q → blkOf p.1 b → ¬ blkOf q.1 b
def valA (av : List (Option Addr × Nat)) (ls : List (List UInt8)) : List Value := List.zipWith (fun p l => .slice p.1 l.length p.2) av ls
theorem OwA.nil (base : Nat) (w : World) : OwA base w [] [] := ⟨rfl, fun i p l h => by simp at h, fun i j p q b _ h => by simp at h⟩
theorem OwA.kpt {S : Nat → Prop} {base : Nat} {w w' : World} {av : List (Option Addr × Nat)} {ls : List (List UInt8)} (h : OwA base w av ls) (k : Kpt S w w') (hs : ∀ p ∈ av, ∀ b, blkOf p.1 b → ¬ S b) : OwA base w' av ls :=
  ⟨h.len, fun i p l h1 h2 => (h.own i p l h1 h2).kptA k (hs p (List.mem_of_getElem? h1)), h.dif⟩
theorem OwA.below {base : Nat} {w w' : World} {av : List (Option Addr × Nat)} {ls : List (List UInt8)} (h : OwA base w av ls) (k : Below w.heap.size w w') : OwA base w' av ls := h.kpt (S := fun _ => False) (.of_below k) (fun _ _ _ _ h => h)
theorem OwA.mono {base base' : Nat} {w : World} {av : List (Option Addr × Nat)} {ls : List (List UInt8)} (h : OwA base w av ls) (hb : base' ≤ base) : OwA base' w av ls := ⟨h.len, fun i p l h1 h2 => (h.own i p l h1 h2).mono hb, h.dif⟩
theorem OwA.get {base : Nat} {w : World} {av : List (Option Addr × Nat)} {ls : List (List UInt8)} (h : OwA base w av ls) {p : Option Addr × Nat} (hp : p ∈ av) : ∃ l, OwnB base w p.1 p.2 l := by
  obtain ⟨i, hi, rfl⟩ := List.getElem_of_mem hp
  have hl : i < ls.length := by rw [← h.len]; exact hi
  exact ⟨ls[i], h.own i _ _ (List.getElem?_eq_getElem hi) (List.getElem?_eq_getElem hl)⟩
theorem OwA.u8 {base : Nat} {w : World} {av : List (Option Addr × Nat)} {ls : List (List UInt8)} (h : OwA base w av ls) {p : Option Addr × Nat} (hp : p ∈ av) {b : Nat} (hb : blkOf p.1 b) : b < w.heap.size ∧ ∃ cs : Array Value, w.heap[b]? = some (.cells cs 5 (0, 0)) := by
  obtain ⟨l, hl⟩ := h.get hp
  refine ⟨(hl.blk hb).2, ?_⟩
  obtain ⟨A, c⟩ := p
  simp only at hl hb
  obtain ⟨g, rfl⟩ := blk_adr hl hb
  have e : g = b := by simpa [blkOf] using hb
  subst e
  obtain ⟨cur, hc, _⟩ := hl.row
  exact ⟨_, hc⟩
theorem OwA.snoc {base : Nat} {w : World} {av : List (Option Addr × Nat)} {ls : List (List UInt8)} (h : OwA base w av ls) {A : Option Addr} {c : Nat} {l : List UInt8} (ho : OwnB base w A c l) (hd : ∀ p ∈ av, ∀ b, blkOf p.1 b → ¬ blkOf A b) : OwA base w (av ++ [(A, c)]) (ls ++ [l]) := by
  have e := h.len
  refine ⟨by simp [e], fun i p x h1 h2 => ?_, fun i j p q b hij h1 h2 h3 => ?_⟩
  · by_cases hi : i < av.length
    · rw [List.getElem?_append_left hi] at h1
      rw [List.getElem?_append_left (by omega)] at h2
      exact h.own i p x h1 h2
    · rw [List.getElem?_append_right (by omega)] at h1
      rw [List.getElem?_append_right (by omega)] at h2
      rw [e] at h1
      generalize i - ls.length = k at *
      cases k with
      | zero => simp at h1 h2; subst h1 h2; exact ho
      | succ k => simp at h1
  · by_cases hj : j < av.length
    · rw [List.getElem?_append_left (by omega)] at h1
      rw [List.getElem?_append_left hj] at h2
      exact h.dif i j p q b hij h1 h2 h3
    · have hjl : j < (av ++ [(A, c)]).length := (List.getElem?_eq_some_iff.1 h2).1
      have hje : j = av.length := by simp at hjl; omega
      subst hje
      simp at h2
      subst h2
      rw [List.getElem?_append_left hij] at h1
      exact hd p (List.mem_of_getElem? h1) b h3
theorem valA_snoc {av : List (Option Addr × Nat)} {ls : List (List UInt8)} (h : av.length = ls.length) (A : Option Addr) (c : Nat) (l : List UInt8) : valA (av ++ [(A, c)]) (ls ++ [l]) = valA av ls ++ [.slice A l.length c] := by
  unfold valA
  rw [List.zipWith_append h]
  rfl
theorem valA_length (av : List (Option Addr × Nat)) (ls : List (List UInt8)) (h : av.length = ls.length) : (valA av ls).length = ls.length := by simp [valA, h]
theorem valA_at {av : List (Option Addr × Nat)} {ls : List (List UInt8)} {i : Nat} {p : Option Addr × Nat} {l : List UInt8} (h1 : av[i]? = some p) (h2 : ls[i]? = some l) : (valA av ls)[i]? = some (.slice p.1 l.length p.2) := by simp [valA, List.getElem?_zipWith, h1, h2]
/-- Where all are blocks. -/
theorem OwA.blk {base : Nat} {w : World} {av : List (Option Addr × Nat)} {ls : List (List UInt8)} (h : OwA base w av ls) (h4 : ∀ l ∈ ls, l.length = 4096) : ∃ gs, Blk base w gs ls ∧ valA av ls = vals gs := by
  have key : ∀ n, n ≤ ls.length → ∃ gs : List (Nat × Nat), gs.length = n ∧ ∀ (i : Nat) (q : Nat × Nat), gs[i]? = some q → av[i]? = some (some ⟨q.1, 0, none⟩, q.2) := by
    intro n
    induction n with
    | zero => exact fun _ => ⟨[], rfl, fun i q h => by simp at h⟩
    | succ n ih =>
      intro hn
      obtain ⟨gs, g1, g2⟩ := ih (by omega)
      have hl := h.len
      obtain ⟨⟨A, c⟩, hp⟩ : ∃ p, av[n]? = some p := ⟨av[n]'(by omega), List.getElem?_eq_getElem _⟩
      obtain ⟨l, hll⟩ : ∃ l, ls[n]? = some l := ⟨ls[n]'(by omega), List.getElem?_eq_getElem _⟩
      have ho := h.own n _ _ hp hll
      obtain ⟨g, rfl, _⟩ := own_adr4 ho (by rw [h4 l (List.mem_of_getElem? hll)]; omega)
      refine ⟨gs ++ [(g, c)], by simp [g1], fun i q hq => ?_⟩
      by_cases hi : i < gs.length
      · rw [List.getElem?_append_left hi] at hq
        exact g2 i q hq
      · have hil : i < (gs ++ [(g, c)]).length := (List.getElem?_eq_some_iff.1 hq).1
        have hie : i = gs.length := by simp at hil; omega
        subst hie
        simp at hq
        subst hq
        rw [g1]
        exact hp
  obtain ⟨gs, g1, g2⟩ := key ls.length (Nat.le_refl _)
  refine ⟨gs, ⟨g1, fun i p l h1 h2 => ⟨h.own i _ _ (g2 i p h1) h2, h4 l (List.mem_of_getElem? h2)⟩, ?_⟩, ?_⟩
  · rw [List.nodup_iff_pairwise_ne, List.pairwise_iff_getElem]
    intro i j hi hj hij he
    simp only [List.length_map] at hi hj
    simp only [List.getElem_map] at he
    exact h.dif i j _ _ gs[i].1 hij (g2 i _ (List.getElem?_eq_getElem hi)) (g2 j _ (List.getElem?_eq_getElem hj)) rfl (by rw [he]; rfl)
  · refine List.ext_getElem? fun i => ?_
    by_cases hi : i < ls.length
    · have e1 : gs[i]? = some (gs[i]'(by omega)) := List.getElem?_eq_getElem _
      have e2 : ls[i]? = some ls[i] := List.getElem?_eq_getElem hi
      rw [valA_at (g2 i _ e1) e2, h4 _ (List.getElem_mem hi)]
      simp [vals, e1]
    · rw [List.getElem?_eq_none (by rw [valA_length _ _ h.len]; omega), List.getElem?_eq_none (by rw [vals_length]; omega)]
theorem CopyLists_any (w : World) (a : Option Addr) (c N : Nat) (ls : List (List UInt8)) (hN : N = ls.length) (hl : ls.length ≤ 1000000) (hb : ∀ l ∈ ls, l.length ≤ 200000000000000) (hr : RdLs w a ls) :
    Calls Try.prog 10 #[.slice a N c] w fun e w' => ∃ A c' av, e = .returned (.slice A N c') ∧ w'.ownsRow w.heap.size 31 1 (.slice A N c') N (valA av ls) ∧ OwA w.heap.size w' av ls ∧ Below w.heap.size w w' := by
  obtain ⟨n, hn⟩ : ∃ n, n = ls.length := ⟨_, rfl⟩
  rw [← hn] at hN
  subst hN
  have HN := hid hn; have HL := hid hb
  rw [← hn] at hl
  clear hn hb
  go_enter Try.func10, Try.ntmps10
  go_wp2_with fail
  go_loopw [3, 4] (fun vo i wr => ∃ k oa oc av, k ≤ N ∧ i = .int .i64 ((k : Nat) : Int) ∧ vo = .slice oa k oc ∧ wr.ownsRow w.heap.size 31 1 (.slice oa k oc) k (valA av (ls.take k)) ∧ OwA w.heap.size wr av (ls.take k) ∧ Below w.heap.size w wr) (fun _ i _ => N - (intOf i).toNat)
  case atStart => exact ⟨0, none, 0, [], Nat.zero_le _, rfl, rfl, World.ownsRow_nil _ _ _ _, OwA.nil _ _, Below.refl _ _⟩
  case round =>
    obtain ⟨k, oa, oc, av, hk, rfl, rfl, q1, q2, q3⟩ := hrel
    by_cases hlt : k < N
    · obtain ⟨l, hx⟩ : ∃ l, ls[k]? = some l := ⟨ls[k]'(by rw [← HN.out]; exact hlt), List.getElem?_eq_getElem _⟩
      obtain ⟨b, off, A, cc, rfl, x1, y1, z1, z2⟩ := hr.below q3 k l hx
      have ht := take_snoc ls k l hx
      have CB := CopyBytes_any wr A cc _ l rfl (HL.out l (List.mem_of_getElem? hx)) y1
      have HT := hid ht
      have hal := q2.len
      have hz := q3.size
      have HAL := hid hal
      clear ht hx hal
      go_wp2_with fail
      refine CB.mono ?_
      rintro e w4 ⟨A4, c4, rfl, ho4, b4⟩
      clear CB x1 y1
      have q14 := own_below q1 b4
      have q24 := q2.below b4
      have q34 := q3.trans (b4.mono hz)
      have hz4 := b4.size
      have ba : Below w4.heap.size w4 (w4.alloc (.cells #[.slice A4 l.length c4] 31)) := (Below.refl _ _).alloc (Nat.le_refl _) _
      have q15 := own_below q14 ba
      have q25 := q24.below ba
      have q35 := q34.trans (ba.mono (by omega))
      have ho5 := ho4.below ba
      have Q15 := hid q15
      have hlt2 : ∀ p ∈ av, ∀ b, blkOf p.1 b → b < wr.heap.size := fun p hp b hb => (q2.u8 hp hb).1
      have hlt3 := hid (fun b (h : blkOf A4 b) => (ho4.blk h).1)
      clear q1 q2 q3 q14 q24 q34
      go_wp2_with (with_reducible refine app_own rfl (.tmp 11) (.tmp 17) 22 31 (.slice none 0 0) 1 24 rfl Try.underlying22 info_L rfl (by decide) (by decide) w.heap.size (.slice oa k oc) k (valA av (ls.take k)) rfl q15 (some ⟨w4.heap.size, 0, none⟩) 1 1 [.slice A4 l.length c4] rfl rfl RdV.one (by simp [Value.oneCell']) (by omega) w q35 q35.size ?_; intro A1 c1 w6 h6a h6b h6c h6d)
      go_roundw
      case rel =>
        have K6 := Kpt.of_grown (S := fun b => (Value.slice oa k oc).ownBlock = some b) h6c (fun j e => e)
        have nT : ∀ {cs : Array Value} {t : TypeId} {b : Nat}, (w4.alloc (.cells #[.slice A4 l.length c4] 31)).heap[b]? = some (.cells cs t (0, 0)) → t ≠ 31 → ¬ (Value.slice oa k oc).ownBlock = some b := fun hc ht h => ht (row_no Q15.out h hc)
        refine ⟨k + 1, A1, c1, av ++ [(A4, c4)], by omega, by go_num, rfl, ?_, ?_, h6b⟩
        · rw [HT.out, valA_snoc HAL.out]
          exact h6a
        · rw [HT.out]
          refine (q25.kpt K6 (fun p hp b hb => ?_)).snoc ((ho5.kptA K6 (fun b hb => ?_)).mono hz) (fun p hp b h1 h2 => ?_)
          · obtain ⟨_, cs, hc⟩ := q25.u8 hp hb
            exact nT hc (by decide)
          · obtain ⟨g', e⟩ := blk_adr ho5 hb
            subst e
            have e2 : g' = b := by simpa [blkOf] using hb
            subst e2
            obtain ⟨cur, hc, _⟩ := ho5.row
            exact nT hc (by decide)
          · have h3 := hlt2 p hp b h1
            have h4 := hlt3.out b h2
            omega
      case measure => simp [intOf]; omega
    · obtain rfl : k = N := by omega
      rw [List.take_of_length_le (by rw [HN.out]; exact Nat.le_refl _)] at q1 q2
      go_wp2
      go_ret
      exact ⟨oa, oc, av, rfl, q1, q2, q3⟩
theorem SameImages_any (w : World) (a a' : Option Addr) (c c' N M : Nat) (l r : List Img) (hN : N = l.length) (hM : M = r.length) (hl : l.length ≤ 1000000) (h1 : RdG w a l) (h2 : RdG w a' r) :
    Calls Try.prog 26 #[.slice a N c, .slice a' M c'] w fun e w' => e = .returned (.bool (decide (l = r))) ∧ Below w.heap.size w w' := by
  subst hN hM
  by_cases hlen : l.length = r.length
  · have hlen' : ((l.length : Int) != (r.length : Int)) = false := by simpa using (show (l.length : Int) = (r.length : Int) by omega)
    have hM : r.length ≤ 1000000 := by omega
    obtain ⟨n, hn⟩ : ∃ n, n = l.length := ⟨_, rfl⟩
    have hn2 : r.length = n := by omega
    rw [← hn, hn2]
    rw [← hn, hn2] at hlen'
    have HN := hid hn; have HN2 := hid hn2
    have hnb : n ≤ 1000000 := by omega
    clear hlen hn hn2 hl hM
    go_enter Try.func26, Try.ntmps26
    go_wp2_with fail
    go_loopw [5] (fun i wr => ∃ k : Nat, k ≤ n ∧ i = .int .i64 k ∧ (∀ j, j < k → l[j]? = r[j]?) ∧ Below w.heap.size w wr) (fun i _ => n - (intOf i).toNat)
    case atStart => exact ⟨0, Nat.zero_le _, rfl, fun j hj => absurd hj (Nat.not_lt_zero _), Below.refl _ _⟩
    case round =>
      obtain ⟨k, hk, rfl, hs, hb⟩ := hrel
      by_cases hlt : k < n
      · have e1 : l[k]? = some (l[k]'(by rw [← HN.out]; exact hlt)) := List.getElem?_eq_getElem _
        have e2 : r[k]? = some (r[k]'(by rw [HN2.out]; exact hlt)) := List.getElem?_eq_getElem _
        obtain ⟨b1, o1, A1, c1, rfl, w1, v1, y1, z1⟩ := h1.below hb k _ e1
        obtain ⟨b2, o2, A2, c2, rfl, w2, v2, y2, z2⟩ := h2.below hb k _ e2
        generalize hlk : l[k]'(by rw [← HN.out]; exact hlt) = lk at *
        generalize hrk : r[k]'(by rw [HN2.out]; exact hlt) = rk at *
        obtain ⟨x1, d1⟩ := lk
        obtain ⟨x2, d2⟩ := rk
        dsimp only at w1 v1 y1 w2 v2 y2
        have SB := SameBytes_any wr.drew A1 A2 c1 c2 _ _ _ _ rfl rfl y1 y2
        have sX : (wr.drew.cell? ⟨b1, o1 + k * 2, none⟩ = some (.int .i64 x1) ∧ wr.drew.cell? ⟨b1, o1 + k * 2 + 1, none⟩ = some (.slice A1 d1.length c1)) ∧ wr.drew.cell? ⟨b2, o2 + k * 2, none⟩ = some (.int .i64 x2) ∧ wr.drew.cell? ⟨b2, o2 + k * 2 + 1, none⟩ = some (.slice A2 d2.length c2) := ⟨⟨w1, v1⟩, w2, v2⟩
        have HS := hid hs; have HB := hid hb; have E1 := hid e1; have E2 := hid e2
        have hno : (x1, d1) ≠ (x2, d2) → ¬ l = r := by
          rintro hne rfl
          exact hne (Option.some.inj (E1.out.symm.trans E2.out))
        have HNO := hid hno
        clear hs hb e1 e2 y1 y2 z1 z2 h1 h2 hlk hrk w1 v1 w2 v2 hno
        rcases hx : (x1 != x2)
        · rcases ht : (d1 == d2)
          · rw [ht] at SB
            have HT := hid ht
            clear ht
            go_wp2_with fail
            refine wp_region_held_drew (S := fun W1 => (W1.cell? ⟨b1, o1 + k * 2, none⟩ = some (.int .i64 x1) ∧ W1.cell? ⟨b1, o1 + k * 2 + 1, none⟩ = some (.slice A1 d1.length c1)) ∧ W1.cell? ⟨b2, o2 + k * 2, none⟩ = some (.int .i64 x2) ∧ W1.cell? ⟨b2, o2 + k * 2 + 1, none⟩ = some (.slice A2 d2.length c2)) (by kernel_rfl) (by exact sX) (fun hHeld => ?_)
            refine wpAnyH_take (i := 0) (oi := ?o0z2) (v := ?v0z2) ?hi0z2 (by kernel_rfl) (by kernel_rfl) ?hr0z2 ?hQ0z2 ?hy0z2 hHeld ?r0z2
            case hi0z2 => (simp only [List.getElem?_toArray, List.getElem?_cons_zero, List.getElem?_cons_succ]; rfl)
            case hr0z2 => kernel_rfl
            case hQ0z2 => exact fun _ _ _ h => h
            case hy0z2 => (refine Or.inl ⟨by rfl, ?_⟩; intro w hSw; (try dsimp only at hSw); go_simp; try with_reducible rfl)
            try simp only [Act.put, List.setIfInBounds_toArray, List.set_cons_zero, List.set_cons_succ]
            refine wpAnyH_take (i := 1) (oi := ?o1z2) (v := ?v1z2) ?hi1z2 (by kernel_rfl) (by kernel_rfl) ?hr1z2 ?hQ1z2 ?hy1z2 hHeld ?r1z2
            case hi1z2 => (simp only [List.getElem?_toArray, List.getElem?_cons_zero, List.getElem?_cons_succ]; rfl)
            case hr1z2 => kernel_rfl
            case hQ1z2 => exact fun _ _ _ h => h
            case hy1z2 => (refine Or.inl ⟨by rfl, ?_⟩; intro w hSw; (try dsimp only at hSw); go_simp; try with_reducible rfl)
            try simp only [Act.put, List.setIfInBounds_toArray, List.set_cons_zero, List.set_cons_succ]
            refine wpAnyH_take (i := 2) (oi := ?o2z2) (v := ?v2z2) ?hi2z2 (by kernel_rfl) (by kernel_rfl) ?hr2z2 ?hQ2z2 ?hy2z2 hHeld ?r2z2
            case hi2z2 => (simp only [List.getElem?_toArray, List.getElem?_cons_zero, List.getElem?_cons_succ]; rfl)
            case hr2z2 => kernel_rfl
            case hQ2z2 => exact fun _ _ _ h => h
            case hy2z2 => (refine Or.inl ⟨by rfl, ?_⟩; intro w hSw; (try dsimp only at hSw); go_simp; try with_reducible rfl)
            try simp only [Act.put, List.setIfInBounds_toArray, List.set_cons_zero, List.set_cons_succ]
            refine wpAnyH_take (i := 3) (oi := ?o3z2) (v := ?v3z2) ?hi3z2 (by kernel_rfl) (by kernel_rfl) ?hr3z2 ?hQ3z2 ?hy3z2 hHeld ?r3z2
            case hi3z2 => (simp only [List.getElem?_toArray, List.getElem?_cons_zero, List.getElem?_cons_succ]; rfl)
            case hr3z2 => kernel_rfl
            case hQ3z2 => exact fun _ _ _ h => h
            case hy3z2 => (refine Or.inl ⟨by rfl, ?_⟩; intro w hSw; (try dsimp only at hSw); go_simp; try with_reducible rfl)
            try simp only [Act.put, List.setIfInBounds_toArray, List.set_cons_zero, List.set_cons_succ]
            refine wpAnyH_take (i := 4) (oi := ?o4z2) (v := ?v4z2) ?hi4z2 (by kernel_rfl) (by kernel_rfl) ?hr4z2 ?hQ4z2 ?hy4z2 hHeld ?r4z2
            case hi4z2 => (simp only [List.getElem?_toArray, List.getElem?_cons_zero, List.getElem?_cons_succ]; rfl)
            case hr4z2 => kernel_rfl
            case hQ4z2 => exact fun _ _ _ h => h
            case hy4z2 => (refine Or.inl ⟨by rfl, ?_⟩; intro w hSw; (try dsimp only at hSw); go_simp; try with_reducible rfl)
            try simp only [Act.put, List.setIfInBounds_toArray, List.set_cons_zero, List.set_cons_succ]
            refine wpAnyH_take (i := 5) (oi := ?o5z2) (v := ?v5z2) ?hi5z2 (by kernel_rfl) (by kernel_rfl) ?hr5z2 ?hQ5z2 ?hy5z2 hHeld ?r5z2
            case hi5z2 => (simp only [List.getElem?_toArray, List.getElem?_cons_zero, List.getElem?_cons_succ]; rfl)
            case hr5z2 => kernel_rfl
            case hQ5z2 => exact fun _ _ _ h => h
            case hy5z2 => (refine Or.inl ⟨by rfl, ?_⟩; intro w hSw; (try dsimp only at hSw); go_simp; try with_reducible rfl)
            try simp only [Act.put, List.setIfInBounds_toArray, List.set_cons_zero, List.set_cons_succ]
            refine wpAnyH_take (i := 6) (oi := ?o6z2) (v := ?v6z2) ?hi6z2 (by kernel_rfl) (by kernel_rfl) ?hr6z2 ?hQ6z2 ?hy6z2 hHeld ?r6z2
            case hi6z2 => (simp only [List.getElem?_toArray, List.getElem?_cons_zero, List.getElem?_cons_succ]; rfl)
            case hr6z2 => kernel_rfl
            case hQ6z2 => exact fun _ _ _ h => h
            case hy6z2 => (refine Or.inl ⟨by rfl, ?_⟩; intro w hSw; (try dsimp only at hSw); go_simp; try with_reducible rfl)
            try simp only [Act.put, List.setIfInBounds_toArray, List.set_cons_zero, List.set_cons_succ]
            refine wpAnyH_take (i := 7) (oi := ?o7z2) (v := ?v7z2) ?hi7z2 (by kernel_rfl) (by kernel_rfl) ?hr7z2 ?hQ7z2 ?hy7z2 hHeld ?r7z2
            case hi7z2 => (simp only [List.getElem?_toArray, List.getElem?_cons_zero, List.getElem?_cons_succ]; rfl)
            case hr7z2 => kernel_rfl
            case hQ7z2 => exact fun _ _ _ h => h
            case hy7z2 => (refine Or.inl ⟨by rfl, ?_⟩; intro w hSw; (try dsimp only at hSw); go_simp; try with_reducible rfl)
            try simp only [Act.put, List.setIfInBounds_toArray, List.set_cons_zero, List.set_cons_succ]
            refine wpAnyH_take (i := 8) (oi := ?o8z2) (v := ?v8z2) ?hi8z2 (by kernel_rfl) (by kernel_rfl) ?hr8z2 ?hQ8z2 ?hy8z2 hHeld ?r8z2
            case hi8z2 => (simp only [List.getElem?_toArray, List.getElem?_cons_zero, List.getElem?_cons_succ]; rfl)
            case hr8z2 => kernel_rfl
            case hQ8z2 => exact fun _ _ _ h => h
            case hy8z2 => (refine Or.inl ⟨by rfl, ?_⟩; intro w hSw; (try dsimp only at hSw); go_simp; try with_reducible rfl)
            try simp only [Act.put, List.setIfInBounds_toArray, List.set_cons_zero, List.set_cons_succ]
            refine wpAnyH_take (i := 9) (oi := ?o9z2) (v := ?v9z2) ?hi9z2 (by kernel_rfl) (by kernel_rfl) ?hr9z2 ?hQ9z2 ?hy9z2 hHeld ?r9z2
            case hi9z2 => (simp only [List.getElem?_toArray, List.getElem?_cons_zero, List.getElem?_cons_succ]; rfl)
            case hr9z2 => kernel_rfl
            case hQ9z2 => exact fun _ _ _ h => h
            case hy9z2 => (refine Or.inl ⟨by rfl, ?_⟩; intro w hSw; (try dsimp only at hSw); go_simp; try with_reducible rfl)
            try simp only [Act.put, List.setIfInBounds_toArray, List.set_cons_zero, List.set_cons_succ]
            refine wpAnyH_take (i := 10) (oi := ?o10z2) (v := ?v10z2) ?hi10z2 (by kernel_rfl) (by kernel_rfl) ?hr10z2 ?hQ10z2 ?hy10z2 hHeld ?r10z2
            case hi10z2 => (simp only [List.getElem?_toArray, List.getElem?_cons_zero, List.getElem?_cons_succ]; rfl)
            case hr10z2 => kernel_rfl
            case hQ10z2 => exact fun _ _ _ h => h
            case hy10z2 => (refine Or.inl ⟨by rfl, ?_⟩; intro w hSw; (try dsimp only at hSw); go_simp; try with_reducible rfl)
            try simp only [Act.put, List.setIfInBounds_toArray, List.set_cons_zero, List.set_cons_succ]
            refine wpAnyH_take (i := 11) (oi := ?o11z2) (v := ?v11z2) ?hi11z2 (by kernel_rfl) (by kernel_rfl) ?hr11z2 ?hQ11z2 ?hy11z2 hHeld ?r11z2
            case hi11z2 => (simp only [List.getElem?_toArray, List.getElem?_cons_zero, List.getElem?_cons_succ]; rfl)
            case hr11z2 => kernel_rfl
            case hQ11z2 => exact fun _ _ _ h => h
            case hy11z2 => (refine Or.inl ⟨by rfl, ?_⟩; intro w hSw; (try dsimp only at hSw); go_simp; try with_reducible rfl)
            try simp only [Act.put, List.setIfInBounds_toArray, List.set_cons_zero, List.set_cons_succ]
            refine wpAnyH_take (i := 12) (oi := ?o12z2) (v := ?v12z2) ?hi12z2 (by kernel_rfl) (by kernel_rfl) ?hr12z2 ?hQ12z2 ?hy12z2 hHeld ?r12z2
            case hi12z2 => (simp only [List.getElem?_toArray, List.getElem?_cons_zero, List.getElem?_cons_succ]; rfl)
            case hr12z2 => kernel_rfl
            case hQ12z2 => exact fun _ _ _ h => h
            case hy12z2 => (refine Or.inl ⟨by rfl, ?_⟩; intro w hSw; (try dsimp only at hSw); go_simp; try with_reducible rfl)
            try simp only [Act.put, List.setIfInBounds_toArray, List.set_cons_zero, List.set_cons_succ]
            refine wpAnyH_take (i := 13) (oi := ?o13z2) (v := ?v13z2) ?hi13z2 (by kernel_rfl) (by kernel_rfl) ?hr13z2 ?hQ13z2 ?hy13z2 hHeld ?r13z2
            case hi13z2 => (simp only [List.getElem?_toArray, List.getElem?_cons_zero, List.getElem?_cons_succ]; rfl)
            case hr13z2 => kernel_rfl
            case hQ13z2 => exact fun _ _ _ h => h
            case hy13z2 => (refine Or.inl ⟨by rfl, ?_⟩; intro w hSw; (try dsimp only at hSw); go_simp; try with_reducible rfl)
            try simp only [Act.put, List.setIfInBounds_toArray, List.set_cons_zero, List.set_cons_succ]
            refine wpAnyH_take (i := 14) (oi := ?o14z2) (v := ?v14z2) ?hi14z2 (by kernel_rfl) (by kernel_rfl) ?hr14z2 ?hQ14z2 ?hy14z2 hHeld ?r14z2
            case hi14z2 => (simp only [List.getElem?_toArray, List.getElem?_cons_zero, List.getElem?_cons_succ]; rfl)
            case hr14z2 => kernel_rfl
            case hQ14z2 => exact fun _ _ _ h => h
            case hy14z2 => (refine Or.inl ⟨by rfl, ?_⟩; intro w hSw; (try dsimp only at hSw); go_simp; try with_reducible rfl)
            try simp only [Act.put, List.setIfInBounds_toArray, List.set_cons_zero, List.set_cons_succ]
            refine wpAnyH_take (i := 15) (oi := ?o15z2) (v := ?v15z2) ?hi15z2 (by kernel_rfl) (by kernel_rfl) ?hr15z2 ?hQ15z2 ?hy15z2 hHeld ?r15z2
            case hi15z2 => (simp only [List.getElem?_toArray, List.getElem?_cons_zero, List.getElem?_cons_succ]; rfl)
            case hr15z2 => kernel_rfl
            case hQ15z2 => exact fun _ _ _ h => h
            case hy15z2 => (refine Or.inl ⟨by rfl, ?_⟩; intro w hSw; (try dsimp only at hSw); go_simp; try with_reducible rfl)
            try simp only [Act.put, List.setIfInBounds_toArray, List.set_cons_zero, List.set_cons_succ]
            refine wpAnyH_take (i := 16) (oi := ?o16z2) (v := ?v16z2) ?hi16z2 (by kernel_rfl) (by kernel_rfl) ?hr16z2 ?hQ16z2 ?hy16z2 hHeld ?r16z2
            case hi16z2 => (simp only [List.getElem?_toArray, List.getElem?_cons_zero, List.getElem?_cons_succ]; rfl)
            case hr16z2 => kernel_rfl
            case hQ16z2 => exact fun _ _ _ h => h
            case hy16z2 => (refine Or.inl ⟨by rfl, ?_⟩; intro w hSw; (try dsimp only at hSw); go_simp; try with_reducible rfl)
            try simp only [Act.put, List.setIfInBounds_toArray, List.set_cons_zero, List.set_cons_succ]
            refine wpAnyH_take (i := 17) (oi := ?o17z2) (v := ?v17z2) ?hi17z2 (by kernel_rfl) (by kernel_rfl) ?hr17z2 ?hQ17z2 ?hy17z2 hHeld ?r17z2
            case hi17z2 => (simp only [List.getElem?_toArray, List.getElem?_cons_zero, List.getElem?_cons_succ]; rfl)
            case hr17z2 => kernel_rfl
            case hQ17z2 => exact fun _ _ _ h => h
            case hy17z2 => (refine Or.inl ⟨by rfl, ?_⟩; intro w hSw; (try dsimp only at hSw); go_simp; try with_reducible rfl)
            try simp only [Act.put, List.setIfInBounds_toArray, List.set_cons_zero, List.set_cons_succ]
            refine wpAnyH_take (i := 18) (oi := ?o18z2) (v := ?v18z2) ?hi18z2 (by kernel_rfl) (by kernel_rfl) ?hr18z2 ?hQ18z2 ?hy18z2 hHeld ?r18z2
            case hi18z2 => (simp only [List.getElem?_toArray, List.getElem?_cons_zero, List.getElem?_cons_succ]; rfl)
            case hr18z2 => kernel_rfl
            case hQ18z2 => exact fun _ _ _ h => h
            case hy18z2 => (refine Or.inl ⟨by rfl, ?_⟩; intro w hSw; (try dsimp only at hSw); go_simp; try with_reducible rfl)
            try simp only [Act.put, List.setIfInBounds_toArray, List.set_cons_zero, List.set_cons_succ]
            refine wpAnyH_take (i := 19) (oi := ?o19z2) (v := ?v19z2) ?hi19z2 (by kernel_rfl) (by kernel_rfl) ?hr19z2 ?hQ19z2 ?hy19z2 hHeld ?r19z2
            case hi19z2 => (simp only [List.getElem?_toArray, List.getElem?_cons_zero, List.getElem?_cons_succ]; rfl)
            case hr19z2 => kernel_rfl
            case hQ19z2 => exact fun _ _ _ h => h
            case hy19z2 => (refine Or.inl ⟨by rfl, ?_⟩; intro w hSw; (try dsimp only at hSw); go_simp; try with_reducible rfl)
            try simp only [Act.put, List.setIfInBounds_toArray, List.set_cons_zero, List.set_cons_succ]
            refine wpAnyH_take (i := 20) (oi := ?o20z2) (v := ?v20z2) ?hi20z2 (by kernel_rfl) (by kernel_rfl) ?hr20z2 ?hQ20z2 ?hy20z2 hHeld ?r20z2
            case hi20z2 => (simp only [List.getElem?_toArray, List.getElem?_cons_zero, List.getElem?_cons_succ]; rfl)
            case hr20z2 => kernel_rfl
            case hQ20z2 => exact fun _ _ _ h => h
            case hy20z2 => (refine Or.inl ⟨by rfl, ?_⟩; intro w hSw; (try dsimp only at hSw); go_simp; try with_reducible rfl)
            try simp only [Act.put, List.setIfInBounds_toArray, List.set_cons_zero, List.set_cons_succ]
            refine wpAnyH_take (i := 21) (oi := ?o21z2) (v := ?v21z2) ?hi21z2 (by kernel_rfl) (by kernel_rfl) ?hr21z2 ?hQ21z2 ?hy21z2 hHeld ?r21z2
            case hi21z2 => (simp only [List.getElem?_toArray, List.getElem?_cons_zero, List.getElem?_cons_succ]; rfl)
            case hr21z2 => kernel_rfl
            case hQ21z2 => exact fun _ _ _ h => h
            case hy21z2 => (refine Or.inl ⟨by rfl, ?_⟩; intro w hSw; (try dsimp only at hSw); go_simp; try with_reducible rfl)
            try simp only [Act.put, List.setIfInBounds_toArray, List.set_cons_zero, List.set_cons_succ]
            refine wpAnyH_ready (rs := [22]) (by kernel_rfl) (by simp) (AllReadyH.cons (o := ?o22z2) ?hi22z2 (fun K hK => ?r22z2) AllReadyH.nil)
            case hi22z2 => (simp only [List.getElem?_toArray, List.getElem?_cons_zero, List.getElem?_cons_succ]; rfl)
            go_simp
            refine SB.mono ?_
            rintro e w' ⟨rfl, rfl⟩
            refine hK.out _ _ (by exact sX) (fun hHeld => ?_)
            clear hK K
            try simp only [Act.put, List.setIfInBounds_toArray, List.set_cons_zero, List.set_cons_succ]
            refine wpAnyH_take (i := 23) (oi := ?o23z2) (v := ?v23z2) ?hi23z2 (by kernel_rfl) (by kernel_rfl) ?hr23z2 ?hQ23z2 ?hy23z2 hHeld ?r23z2
            case hi23z2 => (simp only [List.getElem?_toArray, List.getElem?_cons_zero, List.getElem?_cons_succ]; rfl)
            case hr23z2 => kernel_rfl
            case hQ23z2 => exact fun _ _ _ h => h
            case hy23z2 => (refine Or.inl ⟨by rfl, ?_⟩; intro w hSw; (try dsimp only at hSw); go_simp; try with_reducible rfl)
            try simp only [Act.put, List.setIfInBounds_toArray, List.set_cons_zero, List.set_cons_succ]
            refine wpAnyH_take (i := 24) (oi := ?o24z2) (v := ?v24z2) ?hi24z2 (by kernel_rfl) (by kernel_rfl) ?hr24z2 ?hQ24z2 ?hy24z2 hHeld ?r24z2
            case hi24z2 => (simp only [List.getElem?_toArray, List.getElem?_cons_zero, List.getElem?_cons_succ]; rfl)
            case hr24z2 => kernel_rfl
            case hQ24z2 => exact fun _ _ _ h => h
            case hy24z2 => (refine Or.inl ⟨by rfl, ?_⟩; intro w hSw; (try dsimp only at hSw); go_simp; try with_reducible rfl)
            try simp only [Act.put, List.setIfInBounds_toArray, List.set_cons_zero, List.set_cons_succ]
            refine wpAnyH_done (by kernel_rfl) ?_ _
            go_wp2
            go_ret
            refine ⟨?_, below_drw HB.out⟩
            rw [decide_eq_false (HNO.out (fun e => by have h3 := HT.out; rw [(Prod.mk.inj e).2] at h3; simp at h3))]
            rfl
          · rw [ht] at SB
            have HT := hid ht; have HX := hid hx
            clear ht
            go_wp2_with fail
            refine wp_region_held_drew (S := fun W1 => (W1.cell? ⟨b1, o1 + k * 2, none⟩ = some (.int .i64 x1) ∧ W1.cell? ⟨b1, o1 + k * 2 + 1, none⟩ = some (.slice A1 d1.length c1)) ∧ W1.cell? ⟨b2, o2 + k * 2, none⟩ = some (.int .i64 x2) ∧ W1.cell? ⟨b2, o2 + k * 2 + 1, none⟩ = some (.slice A2 d2.length c2)) (by kernel_rfl) (by exact sX) (fun hHeld => ?_)
            refine wpAnyH_take (i := 0) (oi := ?o0z3) (v := ?v0z3) ?hi0z3 (by kernel_rfl) (by kernel_rfl) ?hr0z3 ?hQ0z3 ?hy0z3 hHeld ?r0z3
            case hi0z3 => (simp only [List.getElem?_toArray, List.getElem?_cons_zero, List.getElem?_cons_succ]; rfl)
            case hr0z3 => kernel_rfl
            case hQ0z3 => exact fun _ _ _ h => h
            case hy0z3 => (refine Or.inl ⟨by rfl, ?_⟩; intro w hSw; (try dsimp only at hSw); go_simp; try with_reducible rfl)
            try simp only [Act.put, List.setIfInBounds_toArray, List.set_cons_zero, List.set_cons_succ]
            refine wpAnyH_take (i := 1) (oi := ?o1z3) (v := ?v1z3) ?hi1z3 (by kernel_rfl) (by kernel_rfl) ?hr1z3 ?hQ1z3 ?hy1z3 hHeld ?r1z3
            case hi1z3 => (simp only [List.getElem?_toArray, List.getElem?_cons_zero, List.getElem?_cons_succ]; rfl)
            case hr1z3 => kernel_rfl
            case hQ1z3 => exact fun _ _ _ h => h
            case hy1z3 => (refine Or.inl ⟨by rfl, ?_⟩; intro w hSw; (try dsimp only at hSw); go_simp; try with_reducible rfl)
            try simp only [Act.put, List.setIfInBounds_toArray, List.set_cons_zero, List.set_cons_succ]
            refine wpAnyH_take (i := 2) (oi := ?o2z3) (v := ?v2z3) ?hi2z3 (by kernel_rfl) (by kernel_rfl) ?hr2z3 ?hQ2z3 ?hy2z3 hHeld ?r2z3
            case hi2z3 => (simp only [List.getElem?_toArray, List.getElem?_cons_zero, List.getElem?_cons_succ]; rfl)
            case hr2z3 => kernel_rfl
            case hQ2z3 => exact fun _ _ _ h => h
            case hy2z3 => (refine Or.inl ⟨by rfl, ?_⟩; intro w hSw; (try dsimp only at hSw); go_simp; try with_reducible rfl)
            try simp only [Act.put, List.setIfInBounds_toArray, List.set_cons_zero, List.set_cons_succ]
            refine wpAnyH_take (i := 3) (oi := ?o3z3) (v := ?v3z3) ?hi3z3 (by kernel_rfl) (by kernel_rfl) ?hr3z3 ?hQ3z3 ?hy3z3 hHeld ?r3z3
            case hi3z3 => (simp only [List.getElem?_toArray, List.getElem?_cons_zero, List.getElem?_cons_succ]; rfl)
            case hr3z3 => kernel_rfl
            case hQ3z3 => exact fun _ _ _ h => h
            case hy3z3 => (refine Or.inl ⟨by rfl, ?_⟩; intro w hSw; (try dsimp only at hSw); go_simp; try with_reducible rfl)
            try simp only [Act.put, List.setIfInBounds_toArray, List.set_cons_zero, List.set_cons_succ]
            refine wpAnyH_take (i := 4) (oi := ?o4z3) (v := ?v4z3) ?hi4z3 (by kernel_rfl) (by kernel_rfl) ?hr4z3 ?hQ4z3 ?hy4z3 hHeld ?r4z3
            case hi4z3 => (simp only [List.getElem?_toArray, List.getElem?_cons_zero, List.getElem?_cons_succ]; rfl)
            case hr4z3 => kernel_rfl
            case hQ4z3 => exact fun _ _ _ h => h
            case hy4z3 => (refine Or.inl ⟨by rfl, ?_⟩; intro w hSw; (try dsimp only at hSw); go_simp; try with_reducible rfl)
            try simp only [Act.put, List.setIfInBounds_toArray, List.set_cons_zero, List.set_cons_succ]
            refine wpAnyH_take (i := 5) (oi := ?o5z3) (v := ?v5z3) ?hi5z3 (by kernel_rfl) (by kernel_rfl) ?hr5z3 ?hQ5z3 ?hy5z3 hHeld ?r5z3
            case hi5z3 => (simp only [List.getElem?_toArray, List.getElem?_cons_zero, List.getElem?_cons_succ]; rfl)
            case hr5z3 => kernel_rfl
            case hQ5z3 => exact fun _ _ _ h => h
            case hy5z3 => (refine Or.inl ⟨by rfl, ?_⟩; intro w hSw; (try dsimp only at hSw); go_simp; try with_reducible rfl)
            try simp only [Act.put, List.setIfInBounds_toArray, List.set_cons_zero, List.set_cons_succ]
            refine wpAnyH_take (i := 6) (oi := ?o6z3) (v := ?v6z3) ?hi6z3 (by kernel_rfl) (by kernel_rfl) ?hr6z3 ?hQ6z3 ?hy6z3 hHeld ?r6z3
            case hi6z3 => (simp only [List.getElem?_toArray, List.getElem?_cons_zero, List.getElem?_cons_succ]; rfl)
            case hr6z3 => kernel_rfl
            case hQ6z3 => exact fun _ _ _ h => h
            case hy6z3 => (refine Or.inl ⟨by rfl, ?_⟩; intro w hSw; (try dsimp only at hSw); go_simp; try with_reducible rfl)
            try simp only [Act.put, List.setIfInBounds_toArray, List.set_cons_zero, List.set_cons_succ]
            refine wpAnyH_take (i := 7) (oi := ?o7z3) (v := ?v7z3) ?hi7z3 (by kernel_rfl) (by kernel_rfl) ?hr7z3 ?hQ7z3 ?hy7z3 hHeld ?r7z3
            case hi7z3 => (simp only [List.getElem?_toArray, List.getElem?_cons_zero, List.getElem?_cons_succ]; rfl)
            case hr7z3 => kernel_rfl
            case hQ7z3 => exact fun _ _ _ h => h
            case hy7z3 => (refine Or.inl ⟨by rfl, ?_⟩; intro w hSw; (try dsimp only at hSw); go_simp; try with_reducible rfl)
            try simp only [Act.put, List.setIfInBounds_toArray, List.set_cons_zero, List.set_cons_succ]
            refine wpAnyH_take (i := 8) (oi := ?o8z3) (v := ?v8z3) ?hi8z3 (by kernel_rfl) (by kernel_rfl) ?hr8z3 ?hQ8z3 ?hy8z3 hHeld ?r8z3
            case hi8z3 => (simp only [List.getElem?_toArray, List.getElem?_cons_zero, List.getElem?_cons_succ]; rfl)
            case hr8z3 => kernel_rfl
            case hQ8z3 => exact fun _ _ _ h => h
            case hy8z3 => (refine Or.inl ⟨by rfl, ?_⟩; intro w hSw; (try dsimp only at hSw); go_simp; try with_reducible rfl)
            try simp only [Act.put, List.setIfInBounds_toArray, List.set_cons_zero, List.set_cons_succ]
            refine wpAnyH_take (i := 9) (oi := ?o9z3) (v := ?v9z3) ?hi9z3 (by kernel_rfl) (by kernel_rfl) ?hr9z3 ?hQ9z3 ?hy9z3 hHeld ?r9z3
            case hi9z3 => (simp only [List.getElem?_toArray, List.getElem?_cons_zero, List.getElem?_cons_succ]; rfl)
            case hr9z3 => kernel_rfl
            case hQ9z3 => exact fun _ _ _ h => h
            case hy9z3 => (refine Or.inl ⟨by rfl, ?_⟩; intro w hSw; (try dsimp only at hSw); go_simp; try with_reducible rfl)
            try simp only [Act.put, List.setIfInBounds_toArray, List.set_cons_zero, List.set_cons_succ]
            refine wpAnyH_take (i := 10) (oi := ?o10z3) (v := ?v10z3) ?hi10z3 (by kernel_rfl) (by kernel_rfl) ?hr10z3 ?hQ10z3 ?hy10z3 hHeld ?r10z3
            case hi10z3 => (simp only [List.getElem?_toArray, List.getElem?_cons_zero, List.getElem?_cons_succ]; rfl)
            case hr10z3 => kernel_rfl
            case hQ10z3 => exact fun _ _ _ h => h
            case hy10z3 => (refine Or.inl ⟨by rfl, ?_⟩; intro w hSw; (try dsimp only at hSw); go_simp; try with_reducible rfl)
            try simp only [Act.put, List.setIfInBounds_toArray, List.set_cons_zero, List.set_cons_succ]
            refine wpAnyH_take (i := 11) (oi := ?o11z3) (v := ?v11z3) ?hi11z3 (by kernel_rfl) (by kernel_rfl) ?hr11z3 ?hQ11z3 ?hy11z3 hHeld ?r11z3
            case hi11z3 => (simp only [List.getElem?_toArray, List.getElem?_cons_zero, List.getElem?_cons_succ]; rfl)
            case hr11z3 => kernel_rfl
            case hQ11z3 => exact fun _ _ _ h => h
            case hy11z3 => (refine Or.inl ⟨by rfl, ?_⟩; intro w hSw; (try dsimp only at hSw); go_simp; try with_reducible rfl)
            try simp only [Act.put, List.setIfInBounds_toArray, List.set_cons_zero, List.set_cons_succ]
            refine wpAnyH_take (i := 12) (oi := ?o12z3) (v := ?v12z3) ?hi12z3 (by kernel_rfl) (by kernel_rfl) ?hr12z3 ?hQ12z3 ?hy12z3 hHeld ?r12z3
            case hi12z3 => (simp only [List.getElem?_toArray, List.getElem?_cons_zero, List.getElem?_cons_succ]; rfl)
            case hr12z3 => kernel_rfl
            case hQ12z3 => exact fun _ _ _ h => h
            case hy12z3 => (refine Or.inl ⟨by rfl, ?_⟩; intro w hSw; (try dsimp only at hSw); go_simp; try with_reducible rfl)
            try simp only [Act.put, List.setIfInBounds_toArray, List.set_cons_zero, List.set_cons_succ]
            refine wpAnyH_take (i := 13) (oi := ?o13z3) (v := ?v13z3) ?hi13z3 (by kernel_rfl) (by kernel_rfl) ?hr13z3 ?hQ13z3 ?hy13z3 hHeld ?r13z3
            case hi13z3 => (simp only [List.getElem?_toArray, List.getElem?_cons_zero, List.getElem?_cons_succ]; rfl)
            case hr13z3 => kernel_rfl
            case hQ13z3 => exact fun _ _ _ h => h
            case hy13z3 => (refine Or.inl ⟨by rfl, ?_⟩; intro w hSw; (try dsimp only at hSw); go_simp; try with_reducible rfl)
            try simp only [Act.put, List.setIfInBounds_toArray, List.set_cons_zero, List.set_cons_succ]
            refine wpAnyH_take (i := 14) (oi := ?o14z3) (v := ?v14z3) ?hi14z3 (by kernel_rfl) (by kernel_rfl) ?hr14z3 ?hQ14z3 ?hy14z3 hHeld ?r14z3
            case hi14z3 => (simp only [List.getElem?_toArray, List.getElem?_cons_zero, List.getElem?_cons_succ]; rfl)
            case hr14z3 => kernel_rfl
            case hQ14z3 => exact fun _ _ _ h => h
            case hy14z3 => (refine Or.inl ⟨by rfl, ?_⟩; intro w hSw; (try dsimp only at hSw); go_simp; try with_reducible rfl)
            try simp only [Act.put, List.setIfInBounds_toArray, List.set_cons_zero, List.set_cons_succ]
            refine wpAnyH_take (i := 15) (oi := ?o15z3) (v := ?v15z3) ?hi15z3 (by kernel_rfl) (by kernel_rfl) ?hr15z3 ?hQ15z3 ?hy15z3 hHeld ?r15z3
            case hi15z3 => (simp only [List.getElem?_toArray, List.getElem?_cons_zero, List.getElem?_cons_succ]; rfl)
            case hr15z3 => kernel_rfl
            case hQ15z3 => exact fun _ _ _ h => h
            case hy15z3 => (refine Or.inl ⟨by rfl, ?_⟩; intro w hSw; (try dsimp only at hSw); go_simp; try with_reducible rfl)
            try simp only [Act.put, List.setIfInBounds_toArray, List.set_cons_zero, List.set_cons_succ]
            refine wpAnyH_take (i := 16) (oi := ?o16z3) (v := ?v16z3) ?hi16z3 (by kernel_rfl) (by kernel_rfl) ?hr16z3 ?hQ16z3 ?hy16z3 hHeld ?r16z3
            case hi16z3 => (simp only [List.getElem?_toArray, List.getElem?_cons_zero, List.getElem?_cons_succ]; rfl)
            case hr16z3 => kernel_rfl
            case hQ16z3 => exact fun _ _ _ h => h
            case hy16z3 => (refine Or.inl ⟨by rfl, ?_⟩; intro w hSw; (try dsimp only at hSw); go_simp; try with_reducible rfl)
            try simp only [Act.put, List.setIfInBounds_toArray, List.set_cons_zero, List.set_cons_succ]
            refine wpAnyH_take (i := 17) (oi := ?o17z3) (v := ?v17z3) ?hi17z3 (by kernel_rfl) (by kernel_rfl) ?hr17z3 ?hQ17z3 ?hy17z3 hHeld ?r17z3
            case hi17z3 => (simp only [List.getElem?_toArray, List.getElem?_cons_zero, List.getElem?_cons_succ]; rfl)
            case hr17z3 => kernel_rfl
            case hQ17z3 => exact fun _ _ _ h => h
            case hy17z3 => (refine Or.inl ⟨by rfl, ?_⟩; intro w hSw; (try dsimp only at hSw); go_simp; try with_reducible rfl)
            try simp only [Act.put, List.setIfInBounds_toArray, List.set_cons_zero, List.set_cons_succ]
            refine wpAnyH_take (i := 18) (oi := ?o18z3) (v := ?v18z3) ?hi18z3 (by kernel_rfl) (by kernel_rfl) ?hr18z3 ?hQ18z3 ?hy18z3 hHeld ?r18z3
            case hi18z3 => (simp only [List.getElem?_toArray, List.getElem?_cons_zero, List.getElem?_cons_succ]; rfl)
            case hr18z3 => kernel_rfl
            case hQ18z3 => exact fun _ _ _ h => h
            case hy18z3 => (refine Or.inl ⟨by rfl, ?_⟩; intro w hSw; (try dsimp only at hSw); go_simp; try with_reducible rfl)
            try simp only [Act.put, List.setIfInBounds_toArray, List.set_cons_zero, List.set_cons_succ]
            refine wpAnyH_take (i := 19) (oi := ?o19z3) (v := ?v19z3) ?hi19z3 (by kernel_rfl) (by kernel_rfl) ?hr19z3 ?hQ19z3 ?hy19z3 hHeld ?r19z3
            case hi19z3 => (simp only [List.getElem?_toArray, List.getElem?_cons_zero, List.getElem?_cons_succ]; rfl)
            case hr19z3 => kernel_rfl
            case hQ19z3 => exact fun _ _ _ h => h
            case hy19z3 => (refine Or.inl ⟨by rfl, ?_⟩; intro w hSw; (try dsimp only at hSw); go_simp; try with_reducible rfl)
            try simp only [Act.put, List.setIfInBounds_toArray, List.set_cons_zero, List.set_cons_succ]
            refine wpAnyH_take (i := 20) (oi := ?o20z3) (v := ?v20z3) ?hi20z3 (by kernel_rfl) (by kernel_rfl) ?hr20z3 ?hQ20z3 ?hy20z3 hHeld ?r20z3
            case hi20z3 => (simp only [List.getElem?_toArray, List.getElem?_cons_zero, List.getElem?_cons_succ]; rfl)
            case hr20z3 => kernel_rfl
            case hQ20z3 => exact fun _ _ _ h => h
            case hy20z3 => (refine Or.inl ⟨by rfl, ?_⟩; intro w hSw; (try dsimp only at hSw); go_simp; try with_reducible rfl)
            try simp only [Act.put, List.setIfInBounds_toArray, List.set_cons_zero, List.set_cons_succ]
            refine wpAnyH_take (i := 21) (oi := ?o21z3) (v := ?v21z3) ?hi21z3 (by kernel_rfl) (by kernel_rfl) ?hr21z3 ?hQ21z3 ?hy21z3 hHeld ?r21z3
            case hi21z3 => (simp only [List.getElem?_toArray, List.getElem?_cons_zero, List.getElem?_cons_succ]; rfl)
            case hr21z3 => kernel_rfl
            case hQ21z3 => exact fun _ _ _ h => h
            case hy21z3 => (refine Or.inl ⟨by rfl, ?_⟩; intro w hSw; (try dsimp only at hSw); go_simp; try with_reducible rfl)
            try simp only [Act.put, List.setIfInBounds_toArray, List.set_cons_zero, List.set_cons_succ]
            refine wpAnyH_ready (rs := [22]) (by kernel_rfl) (by simp) (AllReadyH.cons (o := ?o22z3) ?hi22z3 (fun K hK => ?r22z3) AllReadyH.nil)
            case hi22z3 => (simp only [List.getElem?_toArray, List.getElem?_cons_zero, List.getElem?_cons_succ]; rfl)
            go_simp
            refine SB.mono ?_
            rintro e w' ⟨rfl, rfl⟩
            refine hK.out _ _ (by exact sX) (fun hHeld => ?_)
            clear hK K
            try simp only [Act.put, List.setIfInBounds_toArray, List.set_cons_zero, List.set_cons_succ]
            refine wpAnyH_take (i := 23) (oi := ?o23z3) (v := ?v23z3) ?hi23z3 (by kernel_rfl) (by kernel_rfl) ?hr23z3 ?hQ23z3 ?hy23z3 hHeld ?r23z3
            case hi23z3 => (simp only [List.getElem?_toArray, List.getElem?_cons_zero, List.getElem?_cons_succ]; rfl)
            case hr23z3 => kernel_rfl
            case hQ23z3 => exact fun _ _ _ h => h
            case hy23z3 => (refine Or.inl ⟨by rfl, ?_⟩; intro w hSw; (try dsimp only at hSw); go_simp; try with_reducible rfl)
            try simp only [Act.put, List.setIfInBounds_toArray, List.set_cons_zero, List.set_cons_succ]
            refine wpAnyH_take (i := 24) (oi := ?o24z3) (v := ?v24z3) ?hi24z3 (by kernel_rfl) (by kernel_rfl) ?hr24z3 ?hQ24z3 ?hy24z3 hHeld ?r24z3
            case hi24z3 => (simp only [List.getElem?_toArray, List.getElem?_cons_zero, List.getElem?_cons_succ]; rfl)
            case hr24z3 => kernel_rfl
            case hQ24z3 => exact fun _ _ _ h => h
            case hy24z3 => (refine Or.inl ⟨by rfl, ?_⟩; intro w hSw; (try dsimp only at hSw); go_simp; try with_reducible rfl)
            try simp only [Act.put, List.setIfInBounds_toArray, List.set_cons_zero, List.set_cons_succ]
            refine wpAnyH_done (by kernel_rfl) ?_ _
            have h3 := HT.out
            rw [beq_iff_eq] at h3
            have h4 : x1 = x2 := by simpa using HX.out
            clear hx
            go_wp2_with fail
            refine ⟨⟨k + 1, by omega, by go_num, fun j hj => ?_, below_drw HB.out⟩, by simp [intOf]; omega⟩
            by_cases hjk : j < k
            · exact HS.out j hjk
            · have : j = k := by omega
              subst this
              rw [E1.out, E2.out, h3, h4]
        · have HX := hid hx
          go_wp2_with fail
          refine wp_region_held_drew (S := fun W1 => (W1.cell? ⟨b1, o1 + k * 2, none⟩ = some (.int .i64 x1) ∧ W1.cell? ⟨b1, o1 + k * 2 + 1, none⟩ = some (.slice A1 d1.length c1)) ∧ W1.cell? ⟨b2, o2 + k * 2, none⟩ = some (.int .i64 x2) ∧ W1.cell? ⟨b2, o2 + k * 2 + 1, none⟩ = some (.slice A2 d2.length c2)) (by kernel_rfl) (by exact sX) (fun hHeld => ?_)
          refine wpAnyH_take (i := 0) (oi := ?o0z4) (v := ?v0z4) ?hi0z4 (by kernel_rfl) (by kernel_rfl) ?hr0z4 ?hQ0z4 ?hy0z4 hHeld ?r0z4
          case hi0z4 => (simp only [List.getElem?_toArray, List.getElem?_cons_zero, List.getElem?_cons_succ]; rfl)
          case hr0z4 => kernel_rfl
          case hQ0z4 => exact fun _ _ _ h => h
          case hy0z4 => (refine Or.inl ⟨by rfl, ?_⟩; intro w hSw; (try dsimp only at hSw); go_simp; try with_reducible rfl)
          try simp only [Act.put, List.setIfInBounds_toArray, List.set_cons_zero, List.set_cons_succ]
          refine wpAnyH_take (i := 1) (oi := ?o1z4) (v := ?v1z4) ?hi1z4 (by kernel_rfl) (by kernel_rfl) ?hr1z4 ?hQ1z4 ?hy1z4 hHeld ?r1z4
          case hi1z4 => (simp only [List.getElem?_toArray, List.getElem?_cons_zero, List.getElem?_cons_succ]; rfl)
          case hr1z4 => kernel_rfl
          case hQ1z4 => exact fun _ _ _ h => h
          case hy1z4 => (refine Or.inl ⟨by rfl, ?_⟩; intro w hSw; (try dsimp only at hSw); go_simp; try with_reducible rfl)
          try simp only [Act.put, List.setIfInBounds_toArray, List.set_cons_zero, List.set_cons_succ]
          refine wpAnyH_take (i := 2) (oi := ?o2z4) (v := ?v2z4) ?hi2z4 (by kernel_rfl) (by kernel_rfl) ?hr2z4 ?hQ2z4 ?hy2z4 hHeld ?r2z4
          case hi2z4 => (simp only [List.getElem?_toArray, List.getElem?_cons_zero, List.getElem?_cons_succ]; rfl)
          case hr2z4 => kernel_rfl
          case hQ2z4 => exact fun _ _ _ h => h
          case hy2z4 => (refine Or.inl ⟨by rfl, ?_⟩; intro w hSw; (try dsimp only at hSw); go_simp; try with_reducible rfl)
          try simp only [Act.put, List.setIfInBounds_toArray, List.set_cons_zero, List.set_cons_succ]
          refine wpAnyH_take (i := 3) (oi := ?o3z4) (v := ?v3z4) ?hi3z4 (by kernel_rfl) (by kernel_rfl) ?hr3z4 ?hQ3z4 ?hy3z4 hHeld ?r3z4
          case hi3z4 => (simp only [List.getElem?_toArray, List.getElem?_cons_zero, List.getElem?_cons_succ]; rfl)
          case hr3z4 => kernel_rfl
          case hQ3z4 => exact fun _ _ _ h => h
          case hy3z4 => (refine Or.inl ⟨by rfl, ?_⟩; intro w hSw; (try dsimp only at hSw); go_simp; try with_reducible rfl)
          try simp only [Act.put, List.setIfInBounds_toArray, List.set_cons_zero, List.set_cons_succ]
          refine wpAnyH_take (i := 4) (oi := ?o4z4) (v := ?v4z4) ?hi4z4 (by kernel_rfl) (by kernel_rfl) ?hr4z4 ?hQ4z4 ?hy4z4 hHeld ?r4z4
          case hi4z4 => (simp only [List.getElem?_toArray, List.getElem?_cons_zero, List.getElem?_cons_succ]; rfl)
          case hr4z4 => kernel_rfl
          case hQ4z4 => exact fun _ _ _ h => h
          case hy4z4 => (refine Or.inl ⟨by rfl, ?_⟩; intro w hSw; (try dsimp only at hSw); go_simp; try with_reducible rfl)
          try simp only [Act.put, List.setIfInBounds_toArray, List.set_cons_zero, List.set_cons_succ]
          refine wpAnyH_take (i := 5) (oi := ?o5z4) (v := ?v5z4) ?hi5z4 (by kernel_rfl) (by kernel_rfl) ?hr5z4 ?hQ5z4 ?hy5z4 hHeld ?r5z4
          case hi5z4 => (simp only [List.getElem?_toArray, List.getElem?_cons_zero, List.getElem?_cons_succ]; rfl)
          case hr5z4 => kernel_rfl
          case hQ5z4 => exact fun _ _ _ h => h
          case hy5z4 => (refine Or.inl ⟨by rfl, ?_⟩; intro w hSw; (try dsimp only at hSw); go_simp; try with_reducible rfl)
          try simp only [Act.put, List.setIfInBounds_toArray, List.set_cons_zero, List.set_cons_succ]
          refine wpAnyH_take (i := 6) (oi := ?o6z4) (v := ?v6z4) ?hi6z4 (by kernel_rfl) (by kernel_rfl) ?hr6z4 ?hQ6z4 ?hy6z4 hHeld ?r6z4
          case hi6z4 => (simp only [List.getElem?_toArray, List.getElem?_cons_zero, List.getElem?_cons_succ]; rfl)
          case hr6z4 => kernel_rfl
          case hQ6z4 => exact fun _ _ _ h => h
          case hy6z4 => (refine Or.inl ⟨by rfl, ?_⟩; intro w hSw; (try dsimp only at hSw); go_simp; try with_reducible rfl)
          try simp only [Act.put, List.setIfInBounds_toArray, List.set_cons_zero, List.set_cons_succ]
          refine wpAnyH_take (i := 7) (oi := ?o7z4) (v := ?v7z4) ?hi7z4 (by kernel_rfl) (by kernel_rfl) ?hr7z4 ?hQ7z4 ?hy7z4 hHeld ?r7z4
          case hi7z4 => (simp only [List.getElem?_toArray, List.getElem?_cons_zero, List.getElem?_cons_succ]; rfl)
          case hr7z4 => kernel_rfl
          case hQ7z4 => exact fun _ _ _ h => h
          case hy7z4 => (refine Or.inl ⟨by rfl, ?_⟩; intro w hSw; (try dsimp only at hSw); go_simp; try with_reducible rfl)
          try simp only [Act.put, List.setIfInBounds_toArray, List.set_cons_zero, List.set_cons_succ]
          refine wpAnyH_take (i := 8) (oi := ?o8z4) (v := ?v8z4) ?hi8z4 (by kernel_rfl) (by kernel_rfl) ?hr8z4 ?hQ8z4 ?hy8z4 hHeld ?r8z4
          case hi8z4 => (simp only [List.getElem?_toArray, List.getElem?_cons_zero, List.getElem?_cons_succ]; rfl)
          case hr8z4 => kernel_rfl
          case hQ8z4 => exact fun _ _ _ h => h
          case hy8z4 => (refine Or.inl ⟨by rfl, ?_⟩; intro w hSw; (try dsimp only at hSw); go_simp; try with_reducible rfl)
          try simp only [Act.put, List.setIfInBounds_toArray, List.set_cons_zero, List.set_cons_succ]
          refine wpAnyH_take (i := 9) (oi := ?o9z4) (v := ?v9z4) ?hi9z4 (by kernel_rfl) (by kernel_rfl) ?hr9z4 ?hQ9z4 ?hy9z4 hHeld ?r9z4
          case hi9z4 => (simp only [List.getElem?_toArray, List.getElem?_cons_zero, List.getElem?_cons_succ]; rfl)
          case hr9z4 => kernel_rfl
          case hQ9z4 => exact fun _ _ _ h => h
          case hy9z4 => (refine Or.inl ⟨by rfl, ?_⟩; intro w hSw; (try dsimp only at hSw); go_simp; try with_reducible rfl)
          try simp only [Act.put, List.setIfInBounds_toArray, List.set_cons_zero, List.set_cons_succ]
          refine wpAnyH_take (i := 10) (oi := ?o10z4) (v := ?v10z4) ?hi10z4 (by kernel_rfl) (by kernel_rfl) ?hr10z4 ?hQ10z4 ?hy10z4 hHeld ?r10z4
          case hi10z4 => (simp only [List.getElem?_toArray, List.getElem?_cons_zero, List.getElem?_cons_succ]; rfl)
          case hr10z4 => kernel_rfl
          case hQ10z4 => exact fun _ _ _ h => h
          case hy10z4 => (refine Or.inl ⟨by rfl, ?_⟩; intro w hSw; (try dsimp only at hSw); go_simp; try with_reducible rfl)
          try simp only [Act.put, List.setIfInBounds_toArray, List.set_cons_zero, List.set_cons_succ]
          refine wpAnyH_take (i := 11) (oi := ?o11z4) (v := ?v11z4) ?hi11z4 (by kernel_rfl) (by kernel_rfl) ?hr11z4 ?hQ11z4 ?hy11z4 hHeld ?r11z4
          case hi11z4 => (simp only [List.getElem?_toArray, List.getElem?_cons_zero, List.getElem?_cons_succ]; rfl)
          case hr11z4 => kernel_rfl
          case hQ11z4 => exact fun _ _ _ h => h
          case hy11z4 => (refine Or.inl ⟨by rfl, ?_⟩; intro w hSw; (try dsimp only at hSw); go_simp; try with_reducible rfl)
          try simp only [Act.put, List.setIfInBounds_toArray, List.set_cons_zero, List.set_cons_succ]
          refine wpAnyH_take (i := 12) (oi := ?o12z4) (v := undef) ?hi12z4 (by kernel_rfl) (by kernel_rfl) ?hr12z4 ?hQ12z4 ?hy12z4 hHeld ?r12z4
          case hi12z4 => (simp only [List.getElem?_toArray, List.getElem?_cons_zero, List.getElem?_cons_succ]; rfl)
          case hr12z4 => kernel_rfl
          case hQ12z4 => exact fun _ _ _ h => h
          case hy12z4 => exact Or.inr ⟨by rfl, rfl⟩
          try simp only [Act.put, List.setIfInBounds_toArray, List.set_cons_zero, List.set_cons_succ]
          refine wpAnyH_take (i := 13) (oi := ?o13z4) (v := undef) ?hi13z4 (by kernel_rfl) (by kernel_rfl) ?hr13z4 ?hQ13z4 ?hy13z4 hHeld ?r13z4
          case hi13z4 => (simp only [List.getElem?_toArray, List.getElem?_cons_zero, List.getElem?_cons_succ]; rfl)
          case hr13z4 => kernel_rfl
          case hQ13z4 => exact fun _ _ _ h => h
          case hy13z4 => exact Or.inr ⟨by rfl, rfl⟩
          try simp only [Act.put, List.setIfInBounds_toArray, List.set_cons_zero, List.set_cons_succ]
          refine wpAnyH_take (i := 14) (oi := ?o14z4) (v := undef) ?hi14z4 (by kernel_rfl) (by kernel_rfl) ?hr14z4 ?hQ14z4 ?hy14z4 hHeld ?r14z4
          case hi14z4 => (simp only [List.getElem?_toArray, List.getElem?_cons_zero, List.getElem?_cons_succ]; rfl)
          case hr14z4 => kernel_rfl
          case hQ14z4 => exact fun _ _ _ h => h
          case hy14z4 => exact Or.inr ⟨by rfl, rfl⟩
          try simp only [Act.put, List.setIfInBounds_toArray, List.set_cons_zero, List.set_cons_succ]
          refine wpAnyH_take (i := 15) (oi := ?o15z4) (v := undef) ?hi15z4 (by kernel_rfl) (by kernel_rfl) ?hr15z4 ?hQ15z4 ?hy15z4 hHeld ?r15z4
          case hi15z4 => (simp only [List.getElem?_toArray, List.getElem?_cons_zero, List.getElem?_cons_succ]; rfl)
          case hr15z4 => kernel_rfl
          case hQ15z4 => exact fun _ _ _ h => h
          case hy15z4 => exact Or.inr ⟨by rfl, rfl⟩
          try simp only [Act.put, List.setIfInBounds_toArray, List.set_cons_zero, List.set_cons_succ]
          refine wpAnyH_take (i := 16) (oi := ?o16z4) (v := undef) ?hi16z4 (by kernel_rfl) (by kernel_rfl) ?hr16z4 ?hQ16z4 ?hy16z4 hHeld ?r16z4
          case hi16z4 => (simp only [List.getElem?_toArray, List.getElem?_cons_zero, List.getElem?_cons_succ]; rfl)
          case hr16z4 => kernel_rfl
          case hQ16z4 => exact fun _ _ _ h => h
          case hy16z4 => exact Or.inr ⟨by rfl, rfl⟩
          try simp only [Act.put, List.setIfInBounds_toArray, List.set_cons_zero, List.set_cons_succ]
          refine wpAnyH_take (i := 17) (oi := ?o17z4) (v := undef) ?hi17z4 (by kernel_rfl) (by kernel_rfl) ?hr17z4 ?hQ17z4 ?hy17z4 hHeld ?r17z4
          case hi17z4 => (simp only [List.getElem?_toArray, List.getElem?_cons_zero, List.getElem?_cons_succ]; rfl)
          case hr17z4 => kernel_rfl
          case hQ17z4 => exact fun _ _ _ h => h
          case hy17z4 => exact Or.inr ⟨by rfl, rfl⟩
          try simp only [Act.put, List.setIfInBounds_toArray, List.set_cons_zero, List.set_cons_succ]
          refine wpAnyH_take (i := 18) (oi := ?o18z4) (v := undef) ?hi18z4 (by kernel_rfl) (by kernel_rfl) ?hr18z4 ?hQ18z4 ?hy18z4 hHeld ?r18z4
          case hi18z4 => (simp only [List.getElem?_toArray, List.getElem?_cons_zero, List.getElem?_cons_succ]; rfl)
          case hr18z4 => kernel_rfl
          case hQ18z4 => exact fun _ _ _ h => h
          case hy18z4 => exact Or.inr ⟨by rfl, rfl⟩
          try simp only [Act.put, List.setIfInBounds_toArray, List.set_cons_zero, List.set_cons_succ]
          refine wpAnyH_take (i := 19) (oi := ?o19z4) (v := undef) ?hi19z4 (by kernel_rfl) (by kernel_rfl) ?hr19z4 ?hQ19z4 ?hy19z4 hHeld ?r19z4
          case hi19z4 => (simp only [List.getElem?_toArray, List.getElem?_cons_zero, List.getElem?_cons_succ]; rfl)
          case hr19z4 => kernel_rfl
          case hQ19z4 => exact fun _ _ _ h => h
          case hy19z4 => exact Or.inr ⟨by rfl, rfl⟩
          try simp only [Act.put, List.setIfInBounds_toArray, List.set_cons_zero, List.set_cons_succ]
          refine wpAnyH_take (i := 20) (oi := ?o20z4) (v := undef) ?hi20z4 (by kernel_rfl) (by kernel_rfl) ?hr20z4 ?hQ20z4 ?hy20z4 hHeld ?r20z4
          case hi20z4 => (simp only [List.getElem?_toArray, List.getElem?_cons_zero, List.getElem?_cons_succ]; rfl)
          case hr20z4 => kernel_rfl
          case hQ20z4 => exact fun _ _ _ h => h
          case hy20z4 => exact Or.inr ⟨by rfl, rfl⟩
          try simp only [Act.put, List.setIfInBounds_toArray, List.set_cons_zero, List.set_cons_succ]
          refine wpAnyH_take (i := 21) (oi := ?o21z4) (v := undef) ?hi21z4 (by kernel_rfl) (by kernel_rfl) ?hr21z4 ?hQ21z4 ?hy21z4 hHeld ?r21z4
          case hi21z4 => (simp only [List.getElem?_toArray, List.getElem?_cons_zero, List.getElem?_cons_succ]; rfl)
          case hr21z4 => kernel_rfl
          case hQ21z4 => exact fun _ _ _ h => h
          case hy21z4 => exact Or.inr ⟨by rfl, rfl⟩
          try simp only [Act.put, List.setIfInBounds_toArray, List.set_cons_zero, List.set_cons_succ]
          refine wpAnyH_take (i := 22) (oi := ?o22z4) (v := undef) ?hi22z4 (by kernel_rfl) (by kernel_rfl) ?hr22z4 ?hQ22z4 ?hy22z4 hHeld ?r22z4
          case hi22z4 => (simp only [List.getElem?_toArray, List.getElem?_cons_zero, List.getElem?_cons_succ]; rfl)
          case hr22z4 => kernel_rfl
          case hQ22z4 => exact fun _ _ _ h => h
          case hy22z4 => exact Or.inr ⟨by rfl, rfl⟩
          try simp only [Act.put, List.setIfInBounds_toArray, List.set_cons_zero, List.set_cons_succ]
          refine wpAnyH_take (i := 23) (oi := ?o23z4) (v := undef) ?hi23z4 (by kernel_rfl) (by kernel_rfl) ?hr23z4 ?hQ23z4 ?hy23z4 hHeld ?r23z4
          case hi23z4 => (simp only [List.getElem?_toArray, List.getElem?_cons_zero, List.getElem?_cons_succ]; rfl)
          case hr23z4 => kernel_rfl
          case hQ23z4 => exact fun _ _ _ h => h
          case hy23z4 => exact Or.inr ⟨by rfl, rfl⟩
          try simp only [Act.put, List.setIfInBounds_toArray, List.set_cons_zero, List.set_cons_succ]
          refine wpAnyH_take (i := 24) (oi := ?o24z4) (v := ?v24z4) ?hi24z4 (by kernel_rfl) (by kernel_rfl) ?hr24z4 ?hQ24z4 ?hy24z4 hHeld ?r24z4
          case hi24z4 => (simp only [List.getElem?_toArray, List.getElem?_cons_zero, List.getElem?_cons_succ]; rfl)
          case hr24z4 => kernel_rfl
          case hQ24z4 => exact fun _ _ _ h => h
          case hy24z4 => (refine Or.inl ⟨by rfl, ?_⟩; intro w hSw; (try dsimp only at hSw); go_simp; try with_reducible rfl)
          try simp only [Act.put, List.setIfInBounds_toArray, List.set_cons_zero, List.set_cons_succ]
          refine wpAnyH_done (by kernel_rfl) ?_ _
          go_wp2
          go_ret
          refine ⟨?_, below_drw HB.out⟩
          rw [decide_eq_false (HNO.out (fun e => by have h3 := HX.out; rw [(Prod.mk.inj e).1] at h3; simp at h3))]
          rfl
      · obtain rfl : k = n := by omega
        have he : l = r := by
          refine List.ext_getElem? fun j => ?_
          by_cases hj : j < k
          · exact hs j hj
          · rw [List.getElem?_eq_none (by rw [← HN.out]; omega), List.getElem?_eq_none (by rw [HN2.out]; omega)]
        have HE := hid he; have HB := hid hb
        clear hs he h1 h2
        go_wp2
        go_ret
        exact ⟨by rw [decide_eq_true HE.out]; rfl, HB.out⟩
  · have hlen' : ((l.length : Int) == (r.length : Int)) = false := by simpa using (show ¬ ((l.length : Int) = (r.length : Int)) by omega)
    have hne : ¬ l = r := fun e => hlen (by rw [e])
    have HE := hid (decide_eq_false hne)
    clear hne h1 h2 hlen
    go_enter Try.func26, Try.ntmps26
    go_wp2
    go_ret
    exact ⟨by rw [HE.out]; rfl, Below.refl _ _⟩
theorem SameGroup_any (w : World) (ep seq ep' seq' : Int) (a a' : Option Addr) (c c' N M : Nat) (l r : List Img) (hN : N = l.length) (hM : M = r.length) (hl : l.length ≤ 1000000) (h1 : RdG w a l) (h2 : RdG w a' r) :
    Calls Try.prog 14 #[.agg #[.int .i64 ep, .int .i64 seq, .slice a N c], .agg #[.int .i64 ep', .int .i64 seq', .slice a' M c']] w fun e w' => e = .returned (.bool (decide (ep = ep' ∧ seq = seq' ∧ l = r))) ∧ Below w.heap.size w w' := by
  have hb2 : Below w.heap.size w ((w.alloc (.cells #[.int .i64 ep, .int .i64 seq, .slice a N c] 28)).alloc (.cells #[.int .i64 ep', .int .i64 seq', .slice a' M c'] 28)) := ((Below.refl _ _).alloc (Nat.le_refl _) _).alloc (by simp) _
  have SI := SameImages_any _ a a' c c' N M l r hN hM hl (h1.below hb2) (h2.below hb2)
  clear h1 h2 hl hN hM
  by_cases e1 : ep = ep'
  · have e1' : (ep == ep') = true := by simpa using e1
    by_cases e2 : seq = seq'
    · have e2' : (seq == seq') = true := by simpa using e2
      have hd : decide (ep = ep' ∧ seq = seq' ∧ l = r) = decide (l = r) := by rw [decide_eq_decide]; exact ⟨fun h => h.2.2, fun h => ⟨e1, e2, h⟩⟩
      rw [hd]
      clear hd e1 e2
      generalize decide (l = r) = t at *
      go_enter Try.func14, Try.ntmps14
      go_wp2_with fail
      refine SI.mono ?_
      rintro e w3 ⟨rfl, b3⟩
      go_wp2
      go_ret
      exact ⟨rfl, hb2.trans (b3.mono hb2.size)⟩
    · have e2' : (seq == seq') = false := by simpa using e2
      have HD := hid (show decide (ep = ep' ∧ seq = seq' ∧ l = r) = false from decide_eq_false (fun h => e2 h.2.1))
      clear e1 e2 SI
      go_enter Try.func14, Try.ntmps14
      go_wp2
      go_ret
      exact ⟨by rw [HD.out]; rfl, hb2⟩
  · have e1' : (ep == ep') = false := by simpa using e1
    have HD := hid (show decide (ep = ep' ∧ seq = seq' ∧ l = r) = false from decide_eq_false (fun h => e1 h.1))
    clear e1 SI
    go_enter Try.func14, Try.ntmps14
    go_wp2
    go_ret
    exact ⟨by rw [HD.out]; rfl, hb2⟩
theorem CopyImages_any (w : World) (a : Option Addr) (c N : Nat) (ims : List Img) (hN : N = ims.length) (hl : ims.length ≤ 1000000) (hb : ∀ x ∈ ims, x.2.length ≤ 200000000000000) (hr : RdG w a ims) :
    Calls Try.prog 19 #[.slice a N c] w fun e w' => ∃ A c' av, e = .returned (.slice A N c') ∧ w'.ownsRow w.heap.size 38 2 (.slice A N c') N (imC (ims.map (·.1)) (valA av (ims.map (·.2)))) ∧ OwA w.heap.size w' av (ims.map (·.2)) ∧ Below w.heap.size w w' := by
  obtain ⟨n, hn⟩ : ∃ n, n = ims.length := ⟨_, rfl⟩
  rw [← hn] at hN
  subst hN
  obtain ⟨ns, hns⟩ : ∃ ns, ns = ims.map (·.1) := ⟨_, rfl⟩
  obtain ⟨ds, hds⟩ : ∃ ds, ds = ims.map (·.2) := ⟨_, rfl⟩
  rw [← hns, ← hds]
  have hnl : ns.length = N := by rw [hns, hn]; simp
  have hdl : ds.length = N := by rw [hds, hn]; simp
  have HN := hid hn; have HL := hid hb; have HNS := hid hns; have HDS := hid hds; have HNL := hid hnl; have HDL := hid hdl
  rw [← hn] at hl
  clear hn hb hns hds hnl hdl
  go_enter Try.func19, Try.ntmps19
  go_wp2_with fail
  go_loopw [3, 4] (fun vo i wr => ∃ k oa oc av, k ≤ N ∧ i = .int .i64 ((k : Nat) : Int) ∧ vo = .slice oa k oc ∧ wr.ownsRow w.heap.size 38 2 (.slice oa k oc) k (imC (ns.take k) (valA av (ds.take k))) ∧ OwA w.heap.size wr av (ds.take k) ∧ Below w.heap.size w wr) (fun _ i _ => N - (intOf i).toNat)
  case atStart => exact ⟨0, none, 0, [], Nat.zero_le _, rfl, rfl, World.ownsRow_nil _ _ _ _, OwA.nil _ _, Below.refl _ _⟩
  case round =>
    obtain ⟨k, oa, oc, av, hk, rfl, rfl, q1, q2, q3⟩ := hrel
    by_cases hlt : k < N
    · obtain ⟨xx, hx⟩ : ∃ x, ims[k]? = some x := ⟨ims[k]'(by rw [← HN.out]; exact hlt), List.getElem?_eq_getElem _⟩
      have hmx := List.mem_of_getElem? hx
      obtain ⟨b, off, A, cc, rfl, w1, v1, y1, z1, z2⟩ := hr.below q3 k xx hx
      have hbl : b < w.heap.size := by
        obtain ⟨b', off', A', cc', e, w1', _⟩ := hr k xx hx
        cases e
        exact World.block_lt_of_cell? w _ w1'
      have hle := HL.out xx hmx
      have tn : ns.take (k + 1) = ns.take k ++ [xx.1] := take_snoc ns k xx.1 (by rw [HNS.out]; simp [hx])
      have td : ds.take (k + 1) = ds.take k ++ [xx.2] := take_snoc ds k xx.2 (by rw [HDS.out]; simp [hx])
      obtain ⟨x, xd⟩ := xx
      dsimp only at w1 v1 y1 hle tn td
      have CB := CopyBytes_any wr.drew A cc _ xd rfl hle y1
      have hal := q2.len
      have hzw : w.heap.size ≤ wr.drew.heap.size := q3.size
      have HTN := hid tn; have HTD := hid td; have HAL := hid hal; have HX := hid hx
      have sX : wr.drew.cell? ⟨b, off + k * 2, none⟩ = some (.int .i64 x) ∧ wr.drew.cell? ⟨b, off + k * 2 + 1, none⟩ = some (.slice A xd.length cc) := ⟨w1, v1⟩
      have q1d : wr.drew.ownsRow w.heap.size 38 2 (.slice oa k oc) k (imC (ns.take k) (valA av (ds.take k))) := q1
      have hnb : ¬ blkOf oa b := fun h => by have := own_base q1 b (own_img q1 h); omega
      have q2d : OwA w.heap.size wr.drew av (ds.take k) := q2.below (kpt_below0 wr)
      have hlt2 : ∀ p ∈ av, ∀ b, blkOf p.1 b → b < wr.drew.heap.size := fun p hp b hb => (q2.u8 hp hb).1
      have FIN : ∀ (w4 : World) (A4 : Option Addr) (c4 : Nat), OwnB wr.drew.heap.size w4 A4 c4 xd → Below wr.drew.heap.size wr.drew w4 → ∀ A1 c1 (w8 : World), w8.ownsRow w.heap.size 38 2 (.slice A1 (k + 1) c1) (k + 1) (imC (ns.take k) (valA av (ds.take k)) ++ [.int .i64 x, .slice A4 xd.length c4]) →
          Kpt (fun b => blkOf oa b) (w4.alloc (.cells #[.int .i64 x, .slice A4 xd.length c4] 38)) w8 →
          w8.ownsRow w.heap.size 38 2 (.slice A1 (k + 1) c1) (k + 1) (imC (ns.take (k + 1)) (valA (av ++ [(A4, c4)]) (ds.take (k + 1)))) ∧ OwA w.heap.size w8 (av ++ [(A4, c4)]) (ds.take (k + 1)) ∧ Below w.heap.size w w8 := by
        intro w4 A4 c4 ho4 b4 A1 c1 w8 h8 K8
        have ba : Below w4.heap.size w4 (w4.alloc (.cells #[.int .i64 x, .slice A4 xd.length c4] 38)) := (Below.refl _ _).alloc (Nat.le_refl _) _
        have q15 := own_below (own_below q1d b4) ba
        have q25 := (q2d.below b4).below ba
        have ho5 := ho4.below ba
        have nT : ∀ {cs : Array Value} {t : TypeId} {b : Nat}, (w4.alloc (.cells #[.int .i64 x, .slice A4 xd.length c4] 38)).heap[b]? = some (.cells cs t (0, 0)) → t ≠ 38 → ¬ blkOf oa b := fun hc ht h => ht (row_no q15 (own_img q15 h) hc)
        have b5 := ((below_drw q3).trans (b4.mono hzw)).trans (ba.mono (Nat.le_trans hzw b4.size))
        refine ⟨?_, ?_, belowK b5 K8 (fun b hb => own_base q15 b (own_img q15 hb)) b5.size⟩
        · rw [HTN.out, HTD.out, valA_snoc HAL.out, imC_snoc]
          · exact h8
          · rw [valA_length _ _ HAL.out, List.length_take, List.length_take, HNL.out, HDL.out]
        · rw [HTD.out]
          refine (q25.kpt K8 (fun p hp b hb => ?_)).snoc ((ho5.kptA K8 (fun b hb => ?_)).mono hzw) (fun p hp b h1 h2 => ?_)
          · obtain ⟨_, cs, hc⟩ := q25.u8 hp hb
            exact nT hc (by decide)
          · obtain ⟨g', e⟩ := blk_adr ho5 hb
            subst e
            have e2 : g' = b := by simpa [blkOf] using hb
            subst e2
            obtain ⟨cur, hc, _⟩ := ho5.row
            exact nT hc (by decide)
          · have h3 := hlt2 p hp b h1
            have h4 := (ho4.blk h2).1
            omega
      have HFIN := hid FIN
      clear FIN hx tn td hal q1 q2 q3 q2d hlt2 w1 v1 y1 z1 z2 hmx
      go_wp2_with fail
      refine wp_region_held_drew (S := fun W1 => W1.cell? ⟨b, off + k * 2, none⟩ = some (.int .i64 x) ∧ W1.cell? ⟨b, off + k * 2 + 1, none⟩ = some (.slice A xd.length cc)) (by kernel_rfl) (by exact sX) (fun hHeld => ?_)
      refine wpAnyH_take (i := 0) (oi := ?o0z1) (v := ?v0z1) ?hi0z1 (by kernel_rfl) (by kernel_rfl) ?hr0z1 ?hQ0z1 ?hy0z1 hHeld ?r0z1
      case hi0z1 => (simp only [List.getElem?_toArray, List.getElem?_cons_zero, List.getElem?_cons_succ]; rfl)
      case hr0z1 => kernel_rfl
      case hQ0z1 => exact fun _ _ _ h => h
      case hy0z1 => (refine Or.inl ⟨by rfl, ?_⟩; intro w hSw; (try dsimp only at hSw); go_simp; try with_reducible rfl)
      try simp only [Act.put, List.setIfInBounds_toArray, List.set_cons_zero, List.set_cons_succ]
      refine wpAnyH_take (i := 1) (oi := ?o1z1) (v := ?v1z1) ?hi1z1 (by kernel_rfl) (by kernel_rfl) ?hr1z1 ?hQ1z1 ?hy1z1 hHeld ?r1z1
      case hi1z1 => (simp only [List.getElem?_toArray, List.getElem?_cons_zero, List.getElem?_cons_succ]; rfl)
      case hr1z1 => kernel_rfl
      case hQ1z1 => exact fun _ _ _ h => h
      case hy1z1 => (refine Or.inl ⟨by rfl, ?_⟩; intro w hSw; (try dsimp only at hSw); go_simp; try with_reducible rfl)
      try simp only [Act.put, List.setIfInBounds_toArray, List.set_cons_zero, List.set_cons_succ]
      refine wpAnyH_take (i := 2) (oi := ?o2z1) (v := ?v2z1) ?hi2z1 (by kernel_rfl) (by kernel_rfl) ?hr2z1 ?hQ2z1 ?hy2z1 hHeld ?r2z1
      case hi2z1 => (simp only [List.getElem?_toArray, List.getElem?_cons_zero, List.getElem?_cons_succ]; rfl)
      case hr2z1 => kernel_rfl
      case hQ2z1 => exact fun _ _ _ h => h
      case hy2z1 => (refine Or.inl ⟨by rfl, ?_⟩; intro w hSw; (try dsimp only at hSw); go_simp; try with_reducible rfl)
      try simp only [Act.put, List.setIfInBounds_toArray, List.set_cons_zero, List.set_cons_succ]
      refine wpAnyH_take (i := 3) (oi := ?o3z1) (v := ?v3z1) ?hi3z1 (by kernel_rfl) (by kernel_rfl) ?hr3z1 ?hQ3z1 ?hy3z1 hHeld ?r3z1
      case hi3z1 => (simp only [List.getElem?_toArray, List.getElem?_cons_zero, List.getElem?_cons_succ]; rfl)
      case hr3z1 => kernel_rfl
      case hQ3z1 => exact fun _ _ _ h => h
      case hy3z1 => (refine Or.inl ⟨by rfl, ?_⟩; intro w hSw; (try dsimp only at hSw); go_simp; try with_reducible rfl)
      try simp only [Act.put, List.setIfInBounds_toArray, List.set_cons_zero, List.set_cons_succ]
      refine wpAnyH_take (i := 4) (oi := ?o4z1) (v := ?v4z1) ?hi4z1 (by kernel_rfl) (by kernel_rfl) ?hr4z1 ?hQ4z1 ?hy4z1 hHeld ?r4z1
      case hi4z1 => (simp only [List.getElem?_toArray, List.getElem?_cons_zero, List.getElem?_cons_succ]; rfl)
      case hr4z1 => kernel_rfl
      case hQ4z1 => exact fun _ _ _ h => h
      case hy4z1 => (refine Or.inl ⟨by rfl, ?_⟩; intro w hSw; (try dsimp only at hSw); go_simp; try with_reducible rfl)
      try simp only [Act.put, List.setIfInBounds_toArray, List.set_cons_zero, List.set_cons_succ]
      refine wpAnyH_take (i := 5) (oi := ?o5z1) (v := ?v5z1) ?hi5z1 (by kernel_rfl) (by kernel_rfl) ?hr5z1 ?hQ5z1 ?hy5z1 hHeld ?r5z1
      case hi5z1 => (simp only [List.getElem?_toArray, List.getElem?_cons_zero, List.getElem?_cons_succ]; rfl)
      case hr5z1 => kernel_rfl
      case hQ5z1 => exact fun _ _ _ h => h
      case hy5z1 => (refine Or.inl ⟨by rfl, ?_⟩; intro w hSw; (try dsimp only at hSw); go_simp; try with_reducible rfl)
      try simp only [Act.put, List.setIfInBounds_toArray, List.set_cons_zero, List.set_cons_succ]
      refine wpAnyH_take (i := 6) (oi := ?o6z1) (v := ?v6z1) ?hi6z1 (by kernel_rfl) (by kernel_rfl) ?hr6z1 ?hQ6z1 ?hy6z1 hHeld ?r6z1
      case hi6z1 => (simp only [List.getElem?_toArray, List.getElem?_cons_zero, List.getElem?_cons_succ]; rfl)
      case hr6z1 => kernel_rfl
      case hQ6z1 => exact fun _ _ _ h => h
      case hy6z1 => (refine Or.inl ⟨by rfl, ?_⟩; intro w hSw; (try dsimp only at hSw); go_simp; try with_reducible rfl)
      try simp only [Act.put, List.setIfInBounds_toArray, List.set_cons_zero, List.set_cons_succ]
      refine wpAnyH_take (i := 7) (oi := ?o7z1) (v := ?v7z1) ?hi7z1 (by kernel_rfl) (by kernel_rfl) ?hr7z1 ?hQ7z1 ?hy7z1 hHeld ?r7z1
      case hi7z1 => (simp only [List.getElem?_toArray, List.getElem?_cons_zero, List.getElem?_cons_succ]; rfl)
      case hr7z1 => kernel_rfl
      case hQ7z1 => exact fun _ _ _ h => h
      case hy7z1 => (refine Or.inl ⟨by rfl, ?_⟩; intro w hSw; (try dsimp only at hSw); go_simp; try with_reducible rfl)
      try simp only [Act.put, List.setIfInBounds_toArray, List.set_cons_zero, List.set_cons_succ]
      refine wpAnyH_take (i := 8) (oi := ?o8z1) (v := ?v8z1) ?hi8z1 (by kernel_rfl) (by kernel_rfl) ?hr8z1 ?hQ8z1 ?hy8z1 hHeld ?r8z1
      case hi8z1 => (simp only [List.getElem?_toArray, List.getElem?_cons_zero, List.getElem?_cons_succ]; rfl)
      case hr8z1 => kernel_rfl
      case hQ8z1 => exact fun _ _ _ h => h
      case hy8z1 => (refine Or.inl ⟨by rfl, ?_⟩; intro w hSw; (try dsimp only at hSw); go_simp; try with_reducible rfl)
      try simp only [Act.put, List.setIfInBounds_toArray, List.set_cons_zero, List.set_cons_succ]
      refine wpAnyH_take (i := 9) (oi := ?o9z1) (v := ?v9z1) ?hi9z1 (by kernel_rfl) (by kernel_rfl) ?hr9z1 ?hQ9z1 ?hy9z1 hHeld ?r9z1
      case hi9z1 => (simp only [List.getElem?_toArray, List.getElem?_cons_zero, List.getElem?_cons_succ]; rfl)
      case hr9z1 => kernel_rfl
      case hQ9z1 => exact fun _ _ _ h => h
      case hy9z1 => (refine Or.inl ⟨by rfl, ?_⟩; intro w hSw; (try dsimp only at hSw); go_simp; try with_reducible rfl)
      try simp only [Act.put, List.setIfInBounds_toArray, List.set_cons_zero, List.set_cons_succ]
      refine wpAnyH_take (i := 10) (oi := ?o10z1) (v := ?v10z1) ?hi10z1 (by kernel_rfl) (by kernel_rfl) ?hr10z1 ?hQ10z1 ?hy10z1 hHeld ?r10z1
      case hi10z1 => (simp only [List.getElem?_toArray, List.getElem?_cons_zero, List.getElem?_cons_succ]; rfl)
      case hr10z1 => kernel_rfl
      case hQ10z1 => exact fun _ _ _ h => h
      case hy10z1 => (refine Or.inl ⟨by rfl, ?_⟩; intro w hSw; (try dsimp only at hSw); go_simp; try with_reducible rfl)
      try simp only [Act.put, List.setIfInBounds_toArray, List.set_cons_zero, List.set_cons_succ]
      refine wpAnyH_ready (rs := [11]) (by kernel_rfl) (by simp) (AllReadyH.cons (o := ?o11z1) ?hi11z1 (fun K hK => ?r11z1) AllReadyH.nil)
      case hi11z1 => (simp only [List.getElem?_toArray, List.getElem?_cons_zero, List.getElem?_cons_succ]; rfl)
      go_simp
      refine CB.mono ?_
      rintro e w4 ⟨A4, c4, rfl, ho4, b4⟩
      have s4 := And.intro (cell_below b4 sX.1) (cell_below b4 sX.2)
      have q14 := own_below q1d b4
      have hz4 := b4.size
      have ba : Below w4.heap.size w4 (w4.alloc (.cells #[.int .i64 x, .slice A4 xd.length c4] 38)) := (Below.refl _ _).alloc (Nat.le_refl _) _
      have s4a := And.intro (cell_below ba s4.1) (cell_below ba s4.2)
      have Q15 := hid (own_below q14 ba)
      have R5 : RdV (w4.alloc (.cells #[.int .i64 x, .slice A4 xd.length c4] 38)) (some ⟨w4.heap.size, 0, none⟩) [.int .i64 x, .slice A4 xd.length c4] := RdV.new w4 #[.int .i64 x, .slice A4 xd.length c4] 38
      have hz5 : w.heap.size ≤ (w4.alloc (.cells #[.int .i64 x, .slice A4 xd.length c4] 38)).heap.size := Nat.le_trans (Nat.le_trans hzw hz4) ba.size
      clear q14
      refine hK.out _ _ (by exact s4) (fun hHeld => ?_)
      clear hK K
      try simp only [Act.put, List.setIfInBounds_toArray, List.set_cons_zero, List.set_cons_succ]
      refine wpAnyH_take (i := 12) (oi := ?o12z1) (v := ?v12z1) ?hi12z1 (by kernel_rfl) (by kernel_rfl) ?hr12z1 ?hQ12z1 ?hy12z1 hHeld ?r12z1
      case hi12z1 => (simp only [List.getElem?_toArray, List.getElem?_cons_zero, List.getElem?_cons_succ]; rfl)
      case hr12z1 => kernel_rfl
      case hQ12z1 => exact fun _ _ _ h => h
      case hy12z1 => (refine Or.inl ⟨by rfl, ?_⟩; intro w hSw; (try dsimp only at hSw); go_simp; try with_reducible rfl)
      try simp only [Act.put, List.setIfInBounds_toArray, List.set_cons_zero, List.set_cons_succ]
      refine wpAnyH_ready (rs := [13]) (by kernel_rfl) (by simp) (AllReadyH.cons (o := ?o13z1) ?hi13z1 (fun K hK => ?r13z1) AllReadyH.nil)
      case hi13z1 => (simp only [List.getElem?_toArray, List.getElem?_cons_zero, List.getElem?_cons_succ]; rfl)
      go_simp
      refine hK.out _ _ (by exact s4a) (fun hHeld => ?_)
      clear hK K
      try simp only [Act.put, List.setIfInBounds_toArray, List.set_cons_zero, List.set_cons_succ]
      refine wpAnyH_ready (rs := [14]) (by kernel_rfl) (by simp) (AllReadyH.cons (o := ?o14z1) ?hi14z1 (fun K hK => ?r14z1) AllReadyH.nil)
      case hi14z1 => (simp only [List.getElem?_toArray, List.getElem?_cons_zero, List.getElem?_cons_succ]; rfl)
      refine step_own rfl (.tmp 11) (.tmp 24) 26 38 (.agg #[.int .i64 0, .slice none 0 0]) 2 32 rfl Try.underlying26 info_I rfl (by decide) (by decide) w.heap.size oa oc k (imC (ns.take k) (valA av (ds.take k))) rfl Q15.out (some ⟨w4.heap.size, 0, none⟩) 1 1 [.int .i64 x, .slice A4 xd.length c4] rfl rfl R5 (by simp [Value.oneCell']) (by omega) hz5 ?_
      intro A1 c1 w8 h8 K8 hA8
      have s8 := And.intro (K8.cell s4a.1 hnb) (K8.cell s4a.2 hnb)
      have H8 := hid h8
      clear h8
      refine hK.out _ _ (by exact s8) (fun hHeld => ?_)
      clear hK K
      try simp only [Act.put, List.setIfInBounds_toArray, List.set_cons_zero, List.set_cons_succ]
      refine wpAnyH_take (i := 15) (oi := ?o15z1) (v := ?v15z1) ?hi15z1 (by kernel_rfl) (by kernel_rfl) ?hr15z1 ?hQ15z1 ?hy15z1 hHeld ?r15z1
      case hi15z1 => (simp only [List.getElem?_toArray, List.getElem?_cons_zero, List.getElem?_cons_succ]; rfl)
      case hr15z1 => kernel_rfl
      case hQ15z1 => exact fun _ _ _ h => h
      case hy15z1 => (refine Or.inl ⟨by rfl, ?_⟩; intro w hSw; (try dsimp only at hSw); go_simp; try with_reducible rfl)
      try simp only [Act.put, List.setIfInBounds_toArray, List.set_cons_zero, List.set_cons_succ]
      refine wpAnyH_done (by kernel_rfl) ?_ _
      go_wp2_with fail
      go_roundw
      case rel =>
        obtain ⟨f1, f2, f3⟩ := HFIN.out w4 A4 c4 ho4 b4 A1 c1 w8 H8.out K8
        exact ⟨k + 1, A1, c1, av ++ [(A4, c4)], by omega, by go_num, rfl, f1, f2, f3⟩
      case measure => simp [intOf]; omega
    · obtain rfl : k = N := by omega
      rw [List.take_of_length_le (by rw [HNL.out]; exact Nat.le_refl _)] at q1
      rw [List.take_of_length_le (by rw [HDL.out]; exact Nat.le_refl _)] at q1 q2
      go_wp2
      go_ret
      exact ⟨oa, oc, av, rfl, q1, q2, q3⟩
end Go.Proofs.Ytknhfaplddgnlaa
