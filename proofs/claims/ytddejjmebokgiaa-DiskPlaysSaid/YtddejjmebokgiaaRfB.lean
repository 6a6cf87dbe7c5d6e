/- The document's disk: Armed, Failing, At, Read, Image. -/
import Derived.Test.YtddejjmebokgiaaRfA
namespace Go.Proofs.Ytddejjmebokgiaa
open Go.RowKit
variable {Q : Nat → Prop}
set_option maxHeartbeats 3200000
set_option maxRecDepth 100000
set_option linter.unusedVariables false
set_option linter.unusedSimpArgs false

theorem IsRf.like {F : Nat → Prop} {w : World} {v : Value} {d x : Dk} (h : IsRf Q w F v d) (e1 : x.safe = d.safe) (e3 : x.wn = d.wn) (e4 : x.wd = d.wd) : ∃ v', IsRf Q w F v' x ∧ ∀ vs vw, v = rfA vs vw d → v' = rfA vs vw x := by
  obtain ⟨gs, cs, A, c, xs, ys, e, hf, h1, h2, h3, h4, h5⟩ := h
  refine ⟨rfA (.slice (some ⟨gs, 0, none⟩) d.safe.length cs) (.slice A d.wn.length c) x, ⟨gs, cs, A, c, xs, ys, by rw [e1, e3], hf, h1, by rw [e3]; exact h2, by rw [e1]; exact h3, by rw [e4]; exact h4, h5⟩, ?_⟩
  intro vs vw e'
  rw [e] at e'
  simp [rfA] at e'
  rw [← e'.1, ← e'.2]
theorem IsRf.two {F : Nat → Prop} {w : World} {v : Value} {d : Dk} (h : IsRf Q w F v d) : ∃ gs cs A c, v = rfA (.slice (some ⟨gs, 0, none⟩) d.safe.length cs) (.slice A d.wn.length c) d := by
  obtain ⟨gs, cs, A, c, xs, ys, e, _⟩ := h
  exact ⟨gs, cs, A, c, e⟩
theorem am_arm (d : Dk) (n : Int) (h : ¬ n < 0) : (d.arm n).am = n ∧ (d.arm n).fm = d.fm := by simp [Dk.arm, Dk.am, Dk.fm, h]
theorem fm_fail (d : Dk) (n : Int) (h : ¬ n < 0) : (d.fail n).am = d.am ∧ (d.fail n).fm = n := by simp [Dk.fail, Dk.am, Dk.fm, h]
theorem arm_same (d : Dk) (n : Int) : (d.arm n).safe = d.safe ∧ (d.arm n).now = d.now ∧ (d.arm n).wn = d.wn ∧ (d.arm n).wd = d.wd ∧ (d.arm n).count = d.count ∧ (d.arm n).down = d.down := by
  unfold Dk.arm; split <;> exact ⟨rfl, rfl, rfl, rfl, rfl, rfl⟩
theorem fail_same (d : Dk) (n : Int) : (d.fail n).safe = d.safe ∧ (d.fail n).now = d.now ∧ (d.fail n).wn = d.wn ∧ (d.fail n).wd = d.wd ∧ (d.fail n).count = d.count ∧ (d.fail n).down = d.down := by
  unfold Dk.fail; split <;> exact ⟨rfl, rfl, rfl, rfl, rfl, rfl⟩
theorem Armed_raw (w : World) (A B : Option Addr) (n1 c1 n2 c2 : Nat) (c am fm n : Int) (dn : Bool) :
    Calls Try.prog 56 #[.agg #[.slice A n1 c1, .slice B n2 c2, .int .i64 c, .bool dn, .int .i64 am, .int .i64 fm], .int .i64 n] w fun e w' => e = .returned (.tuple #[.agg #[.slice A n1 c1, .slice B n2 c2, .int .i64 c, .bool dn, .int .i64 (if n < 0 then am else n), .int .i64 fm], .int .i64 (if n < 0 then 2 else 0)]) ∧ Below w.heap.size w w' := by
  by_cases h : n < 0
  · rw [if_pos h, if_pos h]
    go_enter Try.func56, Try.ntmps56
    go_wp2
    refine bodyPost_ret (v := .tuple #[.agg #[.slice A n1 c1, .slice B n2 c2, _, _, _, _], _]) ?_ rfl ⟨rfl, ?_⟩
    · simp [results, Try.results56, go_sem]
    · repeat' (first | (with_reducible refine Below.setCell ?_ (by simp) _) | (with_reducible refine drewN_below2 ?_ _) | (with_reducible refine Below.alloc ?_ (by simp) _) | (with_reducible exact Below.refl _ _))
  · rw [if_neg h, if_neg h]
    go_enter Try.func56, Try.ntmps56
    go_wp2
    refine bodyPost_ret (v := .tuple #[.agg #[.slice A n1 c1, .slice B n2 c2, _, _, _, _], _]) ?_ rfl ⟨rfl, ?_⟩
    · simp [results, Try.results56, go_sem]
    · repeat' (first | (with_reducible refine Below.setCell ?_ (by simp) _) | (with_reducible refine drewN_below2 ?_ _) | (with_reducible refine Below.alloc ?_ (by simp) _) | (with_reducible exact Below.refl _ _))
theorem Failing_raw (w : World) (A B : Option Addr) (n1 c1 n2 c2 : Nat) (c am fm n : Int) (dn : Bool) :
    Calls Try.prog 57 #[.agg #[.slice A n1 c1, .slice B n2 c2, .int .i64 c, .bool dn, .int .i64 am, .int .i64 fm], .int .i64 n] w fun e w' => e = .returned (.tuple #[.agg #[.slice A n1 c1, .slice B n2 c2, .int .i64 c, .bool dn, .int .i64 am, .int .i64 (if n < 0 then fm else n)], .int .i64 (if n < 0 then 2 else 0)]) ∧ Below w.heap.size w w' := by
  by_cases h : n < 0
  · rw [if_pos h, if_pos h]
    go_enter Try.func57, Try.ntmps57
    go_wp2
    refine bodyPost_ret (v := .tuple #[.agg #[.slice A n1 c1, .slice B n2 c2, _, _, _, _], _]) ?_ rfl ⟨rfl, ?_⟩
    · simp [results, Try.results57, go_sem]
    · repeat' (first | (with_reducible refine Below.setCell ?_ (by simp) _) | (with_reducible refine drewN_below2 ?_ _) | (with_reducible refine Below.alloc ?_ (by simp) _) | (with_reducible exact Below.refl _ _))
  · rw [if_neg h, if_neg h]
    go_enter Try.func57, Try.ntmps57
    go_wp2
    refine bodyPost_ret (v := .tuple #[.agg #[.slice A n1 c1, .slice B n2 c2, _, _, _, _], _]) ?_ rfl ⟨rfl, ?_⟩
    · simp [results, Try.results57, go_sem]
    · repeat' (first | (with_reducible refine Below.setCell ?_ (by simp) _) | (with_reducible refine drewN_below2 ?_ _) | (with_reducible refine Below.alloc ?_ (by simp) _) | (with_reducible exact Below.refl _ _))
theorem Armed_is (w : World) {F : Nat → Prop} {v : Value} {d : Dk} (h : IsRf Q w F v d) (n : Int) :
    Calls Try.prog 56 #[v, .int .i64 n] w fun e w' => ∃ v', e = .returned (.tuple #[v', .int .i64 (if n < 0 then 2 else 0)]) ∧ IsRf Q w' F v' (d.arm n) ∧ Below w.heap.size w w' := by
  obtain ⟨e1, e2, e3, e4, e5, e6⟩ := arm_same d n
  obtain ⟨gs, cs, A, c, e⟩ := h.two
  obtain ⟨v', hv, hx⟩ := h.like e1 e3 e4
  have hx' := hx _ _ e
  subst e
  refine (Armed_raw w _ _ _ _ _ _ _ _ _ n _).mono ?_
  rintro e w' ⟨rfl, b⟩
  refine ⟨v', ?_, hv.below b, b⟩
  rw [hx']
  by_cases hn : n < 0
  · simp only [rfA, hn, if_true, Dk.arm]
  · obtain ⟨q1, q2⟩ := am_arm d n hn
    simp only [rfA, hn, if_false, q1, q2, e5, e6]
theorem Failing_is (w : World) {F : Nat → Prop} {v : Value} {d : Dk} (h : IsRf Q w F v d) (n : Int) :
    Calls Try.prog 57 #[v, .int .i64 n] w fun e w' => ∃ v', e = .returned (.tuple #[v', .int .i64 (if n < 0 then 2 else 0)]) ∧ IsRf Q w' F v' (d.fail n) ∧ Below w.heap.size w w' := by
  obtain ⟨e1, e2, e3, e4, e5, e6⟩ := fail_same d n
  obtain ⟨gs, cs, A, c, e⟩ := h.two
  obtain ⟨v', hv, hx⟩ := h.like e1 e3 e4
  have hx' := hx _ _ e
  subst e
  refine (Failing_raw w _ _ _ _ _ _ _ _ _ n _).mono ?_
  rintro e w' ⟨rfl, b⟩
  refine ⟨v', ?_, hv.below b, b⟩
  rw [hx']
  by_cases hn : n < 0
  · simp only [rfA, hn, if_true, Dk.fail]
  · obtain ⟨q1, q2⟩ := fm_fail d n hn
    simp only [rfA, hn, if_false, q1, q2, e5, e6]
theorem op_is (w : World) {F : Nat → Prop} {v : Value} {d : Dk} (h : IsRf Q w F v d) (hf : d.fit) :
    Calls Try.prog 63 #[v] w fun e w' => ∃ v', e = .returned (.tuple #[v', .int .i64 d.stopE]) ∧ IsRf Q w' F v' d.stopD ∧ Below w.heap.size w w' ∧ ∀ vs vw, v = rfA vs vw d → v' = rfA vs vw d.stopD := by
  obtain ⟨e1, e2, e3, e4, e5⟩ := stopD_same d
  obtain ⟨gs, cs, A, c, e⟩ := h.two
  obtain ⟨v', hv, hx⟩ := h.like e1 e3 e4
  have hx' := hx _ _ e
  obtain ⟨q1, q2, q3, q4⟩ := rf_stop hf
  have ba : d.am ≤ 9223372036854775807 := by
    unfold Dk.am
    split
    · next q => exact (hf.arm q).2
    · decide
  have bf : d.fm ≤ 9223372036854775807 := by
    unfold Dk.fm
    split
    · next q => exact (hf.flt q).2
    · decide
  subst e
  refine (operation_any w _ _ _ _ _ _ _ _ _ _ ba bf).mono ?_
  rintro e w' ⟨rfl, b⟩
  refine ⟨v', ?_, hv.below b, b, hx⟩
  rw [hx', q1, q2, q3, q4]
  simp only [rfA, e5]
/-- What the walks read of the lists. -/
theorem rf_cells {w : World} {gs : Nat} {A : Option Addr} {xs ys : List Value} {d : Dk} (ho : d.ok) (h1 : RdV w (some ⟨gs, 0, none⟩) xs) (h2 : RdV w A (wcells d.wn ys)) (h3 : Dats Q w xs d.safe) (h4 : Dats Q w ys d.wd) :
    (∀ n, n < d.safe.length → ∃ b o c, w.cell? ⟨gs, n, none⟩ = some (.slice (some ⟨b, o, none⟩) 4096 c) ∧ Dat Q w (.slice (some ⟨b, o, none⟩) 4096 c) (d.safe.getD n [])) ∧
    (d.wn ≠ [] → ∃ ga oa, A = some ⟨ga, oa, none⟩ ∧ ∀ i, i < d.wn.length → ∃ b o c, w.cell? ⟨ga, oa + i * 2, none⟩ = some (.int .i64 (d.wn.getD i 0 : Nat)) ∧ w.cell? ⟨ga, oa + i * 2 + 1, none⟩ = some (.slice (some ⟨b, o, none⟩) 4096 c) ∧ Dat Q w (.slice (some ⟨b, o, none⟩) 4096 c) (d.wd.getD i [])) := by
  constructor
  · intro n hn
    obtain ⟨v, hv, hd⟩ := h3.at_ hn
    have e : d.safe.getD n [] = d.safe[n] := by rw [List.getD_eq_getElem?_getD, List.getElem?_eq_getElem hn]; rfl
    have hl := ho.s4 _ (List.getElem_mem hn)
    obtain ⟨b, o, c, rfl, _, _⟩ := hd.rd
    rw [hl] at hd hv
    exact ⟨b, o, c, h1.two n _ hv, by rw [e]; exact hd⟩
  · intro hne
    have hpos : 0 < d.wn.length := List.length_pos_iff.2 hne
    have hne2 : wcells d.wn ys ≠ [] := by
      intro e
      have := wcells_length d.wn ys (by rw [h4.1, ho.wlen])
      rw [e] at this
      simp at this
      omega
    obtain ⟨ga, oa, rfl, hc⟩ := h2 hne2
    refine ⟨ga, oa, rfl, fun i hi => ?_⟩
    have hi2 : i < d.wd.length := by rw [← ho.wlen]; exact hi
    obtain ⟨v, hv, hd⟩ := h4.at_ hi2
    have e : d.wd.getD i [] = d.wd[i] := by rw [List.getD_eq_getElem?_getD, List.getElem?_eq_getElem hi2]; rfl
    have e2 : d.wn.getD i 0 = d.wn[i] := by rw [List.getD_eq_getElem?_getD, List.getElem?_eq_getElem hi]; rfl
    have hl := ho.w4 _ (List.getElem_mem hi2)
    obtain ⟨b, o, c, rfl, _, _⟩ := hd.rd
    rw [hl] at hd hv
    obtain ⟨q1, q2⟩ := wcells_at d.wn ys i _ _ (List.getElem?_eq_getElem hi) hv
    exact ⟨b, o, c, by rw [e2]; exact hc _ _ q1, by rw [Nat.add_assoc]; exact hc _ _ q2, by rw [e]; exact hd⟩
theorem At_is (w : World) {F : Nat → Prop} {v : Value} {d : Dk} (h : IsRf Q w F v d) (hf : d.fit) (n : Nat) (hn : n < d.now.length) :
    Calls Try.prog 58 #[v, .int .i64 (n : Int)] w fun e w' => ∃ b o c, e = .returned (.slice (some ⟨b, o, none⟩) 4096 c) ∧ Dat Q w' (.slice (some ⟨b, o, none⟩) 4096 c) (d.now.getD n []) ∧ Below w.heap.size w w' := by
  obtain ⟨gs, cs, A, c, xs, ys, rfl, _, h1, h2, h3, h4, h5⟩ := h
  have ho := hf.ok
  have hm := ho.max
  have hwm := ho.wmax
  have hl := ho.len
  have hns : n < d.safe.length := by rw [hl]; exact hn
  unfold rfA
  obtain ⟨w1, hw1⟩ : ∃ w1, w1 = w.alloc (.cells #[.slice (some ⟨gs, 0, none⟩) d.safe.length cs, .slice A d.wn.length c, .int .i64 d.count, .bool d.down, .int .i64 d.am, .int .i64 d.fm] 59) := ⟨_, rfl⟩
  have b1 : Below w.heap.size w w1 := by rw [hw1]; exact (Below.refl _ _).alloc (Nat.le_refl _) _
  have hrow : w1.heap[w.heap.size]? = some (.cells #[.slice (some ⟨gs, 0, none⟩) d.safe.length cs, .slice A d.wn.length c, .int .i64 d.count, .bool d.down, .int .i64 d.am, .int .i64 d.fm] 59 (0, 0)) := by rw [hw1]; exact heap_alloc_new w _
  have r0 : w1.cell? ⟨w.heap.size, 0, none⟩ = some (.slice (some ⟨gs, 0, none⟩) d.safe.length cs) := by rw [cell_of_row _ _ _ _ _ _ hrow]; rfl
  have r1 : w1.cell? ⟨w.heap.size, 1, none⟩ = some (.slice A d.wn.length c) := by rw [cell_of_row _ _ _ _ _ _ hrow]; rfl
  obtain ⟨hS, hW⟩ := rf_cells ho (h1.below b1) (h2.below b1) (h3.below b1) (h4.below b1)
  obtain ⟨b0, o0, c0, s1, s2⟩ := hS n hns
  have hlast := hf.last n hn
  have hzero : (sncT d 0 n).getLastD [] = d.safe.getD n [] := by simp [sncT]
  have hsu := fun j (hj : j < d.wn.length) => sncT_succ ho.wlen hj n
  rw [hlast]
  have HSU := hid hsu; have HW := hid hW; have HW1 := hid hw1
  clear hsu hW hS hlast h1 h2 h3 h4 h5 hrow hw1 hf ho
  rw [← hzero] at s2
  obtain ⟨L, hL⟩ : ∃ L : Nat → List UInt8, ∀ j, L j = (sncT d j n).getLastD [] := ⟨_, fun _ => rfl⟩
  have HL := hid hL
  rw [← hL] at s2
  rw [← hL]
  clear hL hzero
  generalize hK : d.wn.length = K at *
  generalize hN : d.safe.length = N at *
  have HK := hid hK.symm
  clear hK hN
  have s1' := s1
  rw [HW1.out] at s1'
  clear hl
  go_enter Try.func58, Try.ntmps58
  go_wp2_with fail
  rw [← HW1.out]
  go_loopw [5, 6] (fun x i wr => ∃ (j b o c : Nat), j ≤ K ∧ i = .int .i64 j ∧ x = .slice (some ⟨b, o, none⟩) 4096 c ∧ Dat Q w1 (.slice (some ⟨b, o, none⟩) 4096 c) (L j) ∧ wr = w1) (fun _ i _ => K - (intOf i).toNat)
  case atStart => exact ⟨0, b0, o0, c0, by omega, rfl, rfl, s2, rfl⟩
  case round =>
    obtain ⟨j, b, o, c, hj, rfl, rfl, hd, rfl⟩ := hrel
    obtain ⟨v1, rfl⟩ : ∃ v1, v1 = wr := ⟨_, rfl⟩
    by_cases hlt : j < K
    · have hne : d.wn ≠ [] := by intro e; have := HK.out; rw [e] at this; simp at this; omega
      obtain ⟨ga, oa, rfl, hc⟩ := HW.out hne
      obtain ⟨b2, o2, c2, t1, t2, t3⟩ := hc j hlt
      have hs1 := HSU.out j hlt
      clear hc
      by_cases he : n = d.wn.getD j 0
      · rw [if_pos he] at hs1
        have hL1 : L (j + 1) = d.wd.getD j [] := by rw [HL.out, hs1]; simp
        rw [← he] at t1
        have HE := hid he; have HL1 := hid hL1; have HS1 := hid hs1
        clear he hL1 hs1
        go_wp2_with fail
        exact ⟨⟨j + 1, b2, o2, c2, by omega, by go_num, rfl, by rw [HL1.out]; exact t3, trivial⟩, by simp [intOf]; omega⟩
      · rw [if_neg he] at hs1
        have hL1 : L (j + 1) = L j := by rw [HL.out, HL.out, hs1]
        have hne2 : ((d.wn.getD j 0 : Nat) : Int) ≠ (n : Int) := by omega
        generalize d.wn.getD j 0 = m at *
        have hb2 : (((m : Nat) : Int) == (n : Int)) = false := by simpa using hne2
        have HE := hid he; have HL1 := hid hL1; have HS1 := hid hs1
        clear he hL1 hs1 hne2
        go_wp2_with fail
        exact ⟨⟨j + 1, b, o, c, by omega, by go_num, rfl, by rw [HL1.out]; exact hd, trivial⟩, by simp [intOf]; omega⟩
    · obtain rfl : j = K := by omega
      go_wp2
      go_ret
      exact ⟨b, o, c, rfl, hd, b1⟩
end Go.Proofs.Ytddejjmebokgiaa
