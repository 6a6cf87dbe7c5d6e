/- Image: slices.Grow and slices.Concat. -/
import Derived.Test.YtddejjmebokgiaaDkJ
namespace Go.Proofs.Ytddejjmebokgiaa
open Go.RowKit
variable {Q : Nat → Prop}
set_option maxHeartbeats 3200000
set_option maxRecDepth 100000
set_option linter.unusedVariables false
set_option linter.unusedSimpArgs false

theorem OwnB.cut {base g c : Nat} {w : World} {l : List UInt8} (h : OwnB base w (some ⟨g, 0, none⟩) c l) : OwnB base w (some ⟨g, 0, none⟩) c [] := by
  rcases h.2 with ⟨hv, _⟩ | ⟨g', cap, cur, hv, hb, hg, hn, hm, hs, ht⟩
  · simp at hv
  · simp only [Value.slice.injEq, Option.some.injEq, Addr.mk.injEq, and_true, true_and] at hv
    obtain ⟨rfl, rfl⟩ := hv
    exact ⟨rfl, .inr ⟨g, c, cur, rfl, hb, hg, Nat.zero_le _, hm, hs, rfl⟩⟩
theorem Grow_nil (w : World) (n : Nat) (hn : 0 < n) (hm : n ≤ 100000000) :
    Calls Try.prog 61 #[.slice none 0 0, .int .i64 (n : Int)] w fun e w' => ∃ A c, e = .returned (.slice A 0 c) ∧ OwnB w.heap.size w' A c [] ∧ Below w.heap.size w w' := by
  have hlt : (0 : Int) < (n : Int) := by omega
  go_enter Try.func61, Try.ntmps61
  go_wp2_with (at_builtin; refine app_zeros rfl (.tmp 20) (.tmp 21) rfl w.heap.size none 0 0 [] rfl rfl (OwnB.nil _ _) n _ rfl rfl n (by simp) (by simp; omega) w (Below.refl _ _) (Nat.le_refl _) ?_; intro A1 c1 w1 h1 b1; simp only [List.nil_append] at h1; obtain ⟨g, rfl, _, _⟩ := own_adr h1 (by intro e; have := congrArg List.length e; simp [zeros] at this; omega); have h2 := h1.cut; have hcap := h1.cap)
  go_ret
  exact ⟨_, _, rfl, h2, b1⟩
theorem Concat_any (w : World) (b off c N : Nat) (xs : List Value) (ls : List (List UInt8)) (hN : N = ls.length) (hpos : 0 < N) (hmax : N ≤ 512) (hr : RdV w (some ⟨b, off, none⟩) xs) (hd : Dats Q w xs ls) (h4 : ∀ l ∈ ls, l.length = 4096) :
    Calls Try.prog 44 #[.slice (some ⟨b, off, none⟩) N c] w fun e w' => ∃ A c', e = .returned (.slice A (4096 * N) c') ∧ OwnB w.heap.size w' A c' ls.flatten ∧ Below w.heap.size w w' := by
  have hin : ∀ k, k < N → ∃ (x o cc : Nat), w.cell? ⟨b, off + k, none⟩ = some (.slice (some ⟨x, o, none⟩) 4096 cc) ∧ RdB w (some ⟨x, o, none⟩) (ls.getD k []) ∧ (ls.getD k []).length = 4096 ∧ ls[k]? = some (ls.getD k []) := by
    intro k hk
    have hkl : k < ls.length := by omega
    obtain ⟨v, hv, hdat⟩ := hd.at_ hkl
    have hl := h4 _ (List.getElem_mem hkl)
    obtain ⟨x, o, cc, rfl, h1, _⟩ := hdat.rd
    rw [hl] at hv
    obtain ⟨b', off', e, hc⟩ := hr (by intro e; rw [e] at hv; simp at hv)
    simp only [Option.some.injEq, Addr.mk.injEq, and_true] at e
    obtain ⟨rfl, rfl⟩ := e
    have hg : ls.getD k [] = ls[k] := by rw [List.getD_eq_getElem?_getD, List.getElem?_eq_getElem hkl]; rfl
    rw [hg]
    exact ⟨x, o, cc, hc k _ hv, h1, hl, List.getElem?_eq_getElem hkl⟩
  have HIN := hid hin
  have HNN := hid hN
  have HL := hid (show ∀ k, k ≤ N → (ls.take k).flatten.length = 4096 * k by
    intro k hk
    induction k with
    | zero => simp
    | succ k ih =>
      obtain ⟨_, _, _, _, _, h1, h2⟩ := hin k (by omega)
      have e : ([ls.getD k []]).flatten.length = 4096 := by simp only [List.flatten_cons, List.flatten_nil, List.append_nil]; exact h1
      rw [List.take_add_one, h2, List.flatten_append, List.length_append, ih (by omega)]
      show 4096 * k + ([ls.getD k []]).flatten.length = _
      rw [e]; omega)
  clear hin hr hd hN
  have G := fun W => Grow_nil W (4096 * N) (by omega) (by omega)
  go_enter Try.func44, Try.ntmps44
  go_wp2_with fail
  go_loopw [3, 11] (fun s i wr => ∃ k : Nat, k ≤ N ∧ i = .int .i64 k ∧ s = .int .i64 ((4096 * k : Nat) : Int) ∧ wr = w) (fun _ i _ => N - (intOf i).toNat)
  case atStart => exact ⟨0, by omega, rfl, rfl, rfl⟩
  case round =>
    obtain ⟨k, hk, rfl, rfl, rfl⟩ := hrel
    obtain ⟨v1, rfl⟩ : ∃ v1, v1 = wr := ⟨_, rfl⟩
    by_cases hlt : k < N
    · obtain ⟨x, o, cc, q1, q2, q3, q4⟩ := HIN.out k hlt
      have hneg : ¬ (((4096 * k : Nat) : Int) + 4096 < 0) := by omega
      go_wp2_with fail
      exact ⟨⟨k + 1, by omega, by go_num, by go_num, trivial⟩, by simp [intOf]; omega⟩
    · obtain rfl : k = N := by omega
      go_wp2_with fail
      refine (G _).mono ?_
      rintro e w1 ⟨A1, c1, rfl, g1, b1⟩
      clear G
      go_wp2_with fail
      go_loopw [6, 27] (fun s i wx => ∃ (j : Nat) (A2 : Option Addr) (c2 : Nat), j ≤ k ∧ i = .int .i64 j ∧ s = .slice A2 (4096 * j) c2 ∧ OwnB v1.heap.size wx A2 c2 (ls.take j).flatten ∧ Below v1.heap.size v1 wx) (fun _ i _ => k - (intOf i).toNat)
      case atStart => exact ⟨0, A1, c1, by omega, rfl, rfl, g1, b1⟩
      case round =>
        obtain ⟨j, A2, c2, hj, rfl, rfl, g2, b2⟩ := hrel
        by_cases hlt2 : j < k
        · obtain ⟨x, o, cc, q1, q2, q3, q4⟩ := HIN.out j hlt2
          have p1 := cell_below b2 q1
          have p2 := q2.below b2
          have hb2 := b2.size
          have Q4 := hid q4; have Q3 := hid q3
          clear q1 q2 q3 q4
          go_wp2_with (at_builtin; refine app_bytes rfl (.tmp 31) (.tmp 32) rfl v1.heap.size A2 c2 (4096 * j) (ls.take j).flatten (HL.out j (by omega)).symm rfl g2 (some ⟨x, o, none⟩) 4096 cc (ls.getD j []) rfl Q3.out.symm p2 (4096 * (j + 1)) (by rw [HL.out j (by omega), Q3.out]; omega) (by rw [HL.out j (by omega), Q3.out]; omega) v1 b2 hb2 ?_; intro A3 c3 w3 h3 b3 _ _)
          go_roundw
          case rel =>
            refine ⟨j + 1, A3, c3, by omega, by go_num, rfl, ?_, b3⟩
            have e : (ls.take (j + 1)).flatten = (ls.take j).flatten ++ ls.getD j [] := by
              rw [List.take_add_one, Q4.out, List.flatten_append]
              show _ ++ ([ls.getD j []]).flatten = _
              rw [List.flatten_cons, List.flatten_nil, List.append_nil]
            rw [e]
            exact h3
          case measure => simp [intOf]; omega
        · obtain rfl : j = k := by omega
          have e : ls.take j = ls := List.take_of_length_le (by rw [HNN.out]; exact Nat.le_refl _)
          rw [e] at g2
          go_wp2
          go_ret
          exact ⟨A2, c2, rfl, g2, b2⟩
theorem Image_is {base : Nat} (w : World) (D : Nat) {S : Nat → Prop} {d : Dk} (h : IsDk Q base w D S d) :
    Calls Try.prog 18 #[ptr D] w fun e w' => ∃ A c, e = .returned (.slice A (4096 * d.now.length) c) ∧ OwnB w.heap.size w' A c d.now.flatten ∧ Below w.heap.size w w' := by
  have hn := fun w => none_is (Q := Q) (base := base) w D (S := S) (d := d)
  unfold ptr at *
  have H := hid h
  obtain ⟨vs, gn, cn, vw, rfl, hD, hr, hp, ho⟩ := h.open_
  obtain ⟨xn, gn', cn', q1, q2, q3⟩ := hp.n
  simp only [Value.slice.injEq, Option.some.injEq, Addr.mk.injEq, and_true, true_and] at q1
  obtain ⟨rfl, rfl⟩ := q1
  obtain ⟨-, e1, -⟩ := nine hr
  have C := Concat_any w gn 0 cn d.now.length xn d.now rfl ho.pos ho.max (RdV.own q2) q3 ho.n4
  clear hp ho hr q2 q3 h
  go_enter Try.func18, Try.ntmps18
  go_wp2_with fail
  refine (hn _ H.out).mono ?_
  rintro e w' ⟨rfl, rfl⟩
  go_wp2_with fail
  refine C.mono ?_
  rintro e w1 ⟨A1, c1, rfl, g1, b1⟩
  go_wp2
  go_ret
  exact ⟨A1, c1, rfl, g1, b1⟩
end Go.Proofs.Ytddejjmebokgiaa
