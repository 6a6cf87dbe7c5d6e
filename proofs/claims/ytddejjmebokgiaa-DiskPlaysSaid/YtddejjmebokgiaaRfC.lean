/- The document's disk: Read, Image. -/
import Derived.Test.YtddejjmebokgiaaRfB
namespace Go.Proofs.Ytddejjmebokgiaa
open Go.RowKit
variable {Q : Nat → Prop}
set_option maxHeartbeats 3200000
set_option maxRecDepth 100000
set_option linter.unusedVariables false
set_option linter.unusedSimpArgs false

theorem RRead_is (w : World) {F : Nat → Prop} {v : Value} {d : Dk} (h : IsRf Q w F v d) (hf : d.fit) (n : Int) :
    Calls Try.prog 55 #[v, .int .i64 n] w fun e w' => ∃ A c, e = .returned (.tuple #[.slice A (d.rdB n).length c, .int .i64 (d.rdE n)]) ∧ RdB w' A (d.rdB n) ∧ Below w.heap.size w w' := by
  have AT := fun (W : World) (h : IsRf Q W F v d) (k : Nat) (hk : k < d.now.length) => At_is W h hf k hk
  have hl := hf.ok.len
  have H := hid h
  obtain ⟨gs, cs, A, c, e⟩ := h.two
  clear h
  subst e
  unfold rfA at *
  by_cases h1 : n < 0
  · have e1 : d.rdE n = 70 ∧ d.rdB n = [] := by simp [Dk.rdE, Dk.rdB, Dk.wrong, h1]
    rw [e1.1, e1.2]
    clear e1 AT hl
    go_enter Try.func55, Try.ntmps55
    go_wp2
    refine bodyPost_ret (v := .tuple #[.slice none 0 0, .int .i64 70]) (by simp [results, Try.results55, go_sem]) rfl ?_
    exact ⟨none, 0, rfl, RdB.nil _ _, (Below.refl _ _).alloc (Nat.le_refl _) _⟩
  · by_cases h2 : (d.now.length : Int) ≤ n
    · have e1 : d.rdE n = 70 ∧ d.rdB n = [] := by simp [Dk.rdE, Dk.rdB, Dk.wrong, h1, h2]
      rw [e1.1, e1.2]
      rw [← hl] at h2
      clear e1 AT hl
      generalize d.safe.length = N at *
      go_enter Try.func55, Try.ntmps55
      go_wp2
      refine bodyPost_ret (v := .tuple #[.slice none 0 0, .int .i64 70]) (by simp [results, Try.results55, go_sem]) rfl ?_
      exact ⟨none, ⟨0, rfl⟩, RdB.nil _ _, (Below.refl _ _).alloc (Nat.le_refl _) _⟩
    · have h2' : n < d.now.length := by omega
      obtain ⟨k, rfl⟩ : ∃ k : Nat, n = k := ⟨n.toNat, by omega⟩
      have h3 : ((d.safe.length : Nat) : Int) > (k : Int) := by rw [hl]; omega
      have hk : k < d.now.length := by omega
      have hlen : (d.now.getD k []).length = 4096 := by
        rw [List.getD_eq_getElem?_getD, List.getElem?_eq_getElem hk]
        exact hf.ok.n4 _ (List.getElem_mem hk)
      rcases hd : d.down
      · have e1 : d.rdE k = 0 ∧ d.rdB k = d.now.getD k [] := by simp [Dk.rdE, Dk.rdB, Dk.wrong, hd]; omega
        rw [e1.1, e1.2, hlen]
        clear e1 hl h2 h2'
        have HK := hid hk; have HL := hid hlen
        clear hk hlen
        have AT' := fun W h => AT W h k HK.out
        clear AT
        generalize d.safe.length = N at *
        rw [hd] at *
        go_enter Try.func55, Try.ntmps55
        go_wp2_with fail
        refine (AT' _ (H.out.below ((Below.refl _ _).alloc (Nat.le_refl _) _))).mono ?_
        rintro e w' ⟨b, o, c', rfl, hd, bb⟩
        go_wp2
        refine bodyPost_ret (v := .tuple #[.slice (some ⟨b, o, none⟩) 4096 c', .int .i64 0]) (by simp [results, Try.results55, go_sem]) rfl ?_
        exact ⟨_, _, rfl, by have := hd.rdb; exact this, ((Below.refl _ _).alloc (Nat.le_refl _) _).trans (bb.mono (by simp))⟩
      · have e1 : d.rdE k = 6 ∧ d.rdB k = [] := by simp [Dk.rdE, Dk.rdB, Dk.wrong, hd]; omega
        rw [e1.1, e1.2]
        clear e1 hl h2 h2' AT
        generalize d.safe.length = N at *
        rw [hd] at *
        go_enter Try.func55, Try.ntmps55
        go_wp2
        refine bodyPost_ret (v := .tuple #[.slice none 0 0, .int .i64 6]) (by simp [results, Try.results55, go_sem]) rfl ?_
        exact ⟨none, ⟨0, rfl⟩, RdB.nil _ _, (Below.refl _ _).alloc (Nat.le_refl _) _⟩
theorem RImage_is (w : World) {F : Nat → Prop} {v : Value} {d : Dk} (h : IsRf Q w F v d) (hf : d.fit) :
    Calls Try.prog 35 #[v] w fun e w' => ∃ A c, e = .returned (.slice A (4096 * d.now.length) c) ∧ OwnB w.heap.size w' A c d.now.flatten ∧ Below w.heap.size w w' := by
  have AT := fun (W : World) (h : IsRf Q W F v d) (k : Nat) (hk : k < d.now.length) => At_is W h hf k hk
  have hl := hf.ok.len
  have hm := hf.ok.max
  have hlen : ∀ k, k < d.now.length → (d.now.getD k []).length = 4096 := by
    intro k hk
    rw [List.getD_eq_getElem?_getD, List.getElem?_eq_getElem hk]
    exact hf.ok.n4 _ (List.getElem_mem hk)
  have hsucc : ∀ k, k < d.now.length → (d.now.take (k + 1)).flatten = (d.now.take k).flatten ++ d.now.getD k [] := by
    intro k hk
    have e : d.now[k]? = some (d.now.getD k []) := by rw [List.getD_eq_getElem?_getD, List.getElem?_eq_getElem hk]; rfl
    rw [List.take_add_one, e, List.flatten_append]
    show _ ++ ([d.now.getD k []]).flatten = _
    rw [List.flatten_cons, List.flatten_nil, List.append_nil]
  have hfl : ∀ k, k ≤ d.now.length → (d.now.take k).flatten.length = 4096 * k := by
    intro k hk
    induction k with
    | zero => simp
    | succ k ih => rw [hsucc k (by omega), List.length_append, ih (by omega), hlen k (by omega)]; omega
  have hall : d.now.flatten = (d.now.take d.now.length).flatten := by rw [List.take_length]
  rw [hall]
  obtain ⟨G, hG⟩ : ∃ G : Nat → List UInt8, ∀ k, G k = (d.now.take k).flatten := ⟨_, fun _ => rfl⟩
  have hG0 : G 0 = [] := by rw [hG]; rfl
  simp only [← hG] at hsucc hfl ⊢
  have H := hid h
  obtain ⟨gs, cs, A, c, e⟩ := h.two
  clear h hG hall
  subst e
  unfold rfA at *
  generalize hN : d.now.length = N at *
  have HLEN := hid hlen; have HSU := hid hsucc; have HFL := hid hfl
  clear hlen hsucc hfl hN
  obtain ⟨w1, hw1⟩ : ∃ w1, w1 = w.alloc (.cells #[.slice (some ⟨gs, 0, none⟩) d.safe.length cs, .slice A d.wn.length c, .int .i64 d.count, .bool d.down, .int .i64 d.am, .int .i64 d.fm] 59) := ⟨_, rfl⟩
  have b1 : Below w.heap.size w w1 := by rw [hw1]; exact (Below.refl _ _).alloc (Nat.le_refl _) _
  have hrow : w1.heap[w.heap.size]? = some (.cells #[.slice (some ⟨gs, 0, none⟩) d.safe.length cs, .slice A d.wn.length c, .int .i64 d.count, .bool d.down, .int .i64 d.am, .int .i64 d.fm] 59 (0, 0)) := by rw [hw1]; exact heap_alloc_new w _
  have hsz : w1.heap.size = w.heap.size + 1 := by rw [hw1]; simp
  have H1 := hid (H.out.below b1)
  have HW1 := hid hw1
  clear hw1 H
  rw [hl] at *
  clear hl
  generalize d.wn.length = K at *
  go_enter Try.func35, Try.ntmps35
  go_wp2_with fail
  rw [← HW1.out]
  have HSZ := hid hsz
  clear hsz
  go_loopw [3, 4] (fun x i wr => ∃ (j : Nat) (A2 : Option Addr) (c2 : Nat), j ≤ N ∧ i = .int .i64 j ∧ x = .slice A2 (4096 * j) c2 ∧ OwnB w1.heap.size wr A2 c2 (G j) ∧ Below w1.heap.size w1 wr) (fun _ i _ => N - (intOf i).toNat)
  case atStart => exact ⟨0, none, 0, by omega, rfl, rfl, by rw [hG0]; exact OwnB.nil _ _, Below.refl _ _⟩
  case round =>
    obtain ⟨j, A2, c2, hj, rfl, rfl, ho, hb⟩ := hrel
    obtain ⟨v1, rfl⟩ : ∃ v1, v1 = wr := ⟨_, rfl⟩
    have row := (hb.block _ (by rw [HSZ.out]; omega)).trans hrow
    have c0 : v1.cell? ⟨w.heap.size, 0, none⟩ = some (.slice (some ⟨gs, 0, none⟩) N cs) := by rw [cell_of_row _ _ _ _ _ _ row]; rfl
    by_cases hlt : j < N
    · have c1 : v1.cell? ⟨w.heap.size, 1, none⟩ = some (.slice A K c) := by rw [cell_of_row _ _ _ _ _ _ row]; rfl
      have c2' : v1.cell? ⟨w.heap.size, 2, none⟩ = some (.int .i64 d.count) := by rw [cell_of_row _ _ _ _ _ _ row]; rfl
      have c3 : v1.cell? ⟨w.heap.size, 3, none⟩ = some (.bool d.down) := by rw [cell_of_row _ _ _ _ _ _ row]; rfl
      have c4 : v1.cell? ⟨w.heap.size, 4, none⟩ = some (.int .i64 d.am) := by rw [cell_of_row _ _ _ _ _ _ row]; rfl
      have c5 : v1.cell? ⟨w.heap.size, 5, none⟩ = some (.int .i64 d.fm) := by rw [cell_of_row _ _ _ _ _ _ row]; rfl
      clear row
      have hbs := hb.size
      go_wp2_with fail
      refine (AT _ (H1.out.below hb) j hlt).mono ?_
      rintro e v2 ⟨b, o, c', rfl, hd, bb⟩
      have ho2 := ho.below bb
      have hb2 := hb.trans (bb.mono hbs)
      have hbs2 := hb2.size
      have hdr := hd.rdb
      clear ho hb hd bb hbs AT
      go_wp2_with (at_builtin; refine app_bytes rfl (.tmp 12) (.tmp 15) rfl w1.heap.size A2 c2 (4096 * j) (G j) (HFL.out j (by omega)).symm rfl ho2 (some ⟨b, o, none⟩) 4096 c' (d.now.getD j []) rfl (HLEN.out j hlt).symm hdr (4096 * (j + 1)) (by rw [HFL.out j (by omega), HLEN.out j hlt]; omega) (by rw [HFL.out j (by omega), HLEN.out j hlt]; omega) w1 hb2 hbs2 ?_; intro A3 c3 w3 h3 b3 _ _)
      go_roundw
      case rel =>
        refine ⟨j + 1, A3, c3, by omega, by go_num, rfl, ?_, b3⟩
        rw [HSU.out j hlt]
        exact h3
      case measure => simp [intOf]; omega
    · obtain rfl : j = N := by omega
      clear AT row
      go_wp2
      go_ret
      exact ⟨A2, c2, rfl, ho.mono (by rw [HSZ.out]; omega), b1.trans (hb.mono b1.size)⟩
end Go.Proofs.Ytddejjmebokgiaa
