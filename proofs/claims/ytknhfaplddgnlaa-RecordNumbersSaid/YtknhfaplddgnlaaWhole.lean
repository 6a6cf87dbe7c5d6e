/- A group is got only if all of it was written (plain). -/
import Derived.Test.YtknhfaplddgnlaaRecAB
namespace Go.Proofs.Ytknhfaplddgnlaa
open Go.RowKit
set_option maxHeartbeats 1000000
set_option maxRecDepth 100000
set_option linter.unusedVariables false
set_option linter.unusedSimpArgs false

theorem stamp_nat {a b : Nat} (h : ∀ r, r < 8 → bat (be a 8) r = bat (be b 8) r) (ha : a < 18446744073709551616) (hb : b < 18446744073709551616) : a = b := by
  have e : be a 8 = be b 8 := bat_ext (by rw [be_length, be_length]) fun k hk => h k (by rw [be_length] at hk; exact hk)
  exact be_inj 8 a b (by omega) (by omega) e
theorem stamp_eq {E Q e q : Nat} (h : ∀ r, r < 8 → bat (stampB E Q) r = bat (stampB e q) r) (h1 : E ≤ 8388608) (h2 : Q ≤ 549755813888) (h3 : e ≤ 8388608) (h4 : q ≤ 549755813888) : E = e ∧ Q = q := by
  have := stamp_nat h (by omega) (by omega)
  omega
theorem put_stamped {E Q : Nat} {ims : List Img} (h : rightG (E : Int) (Q : Int) ims = true) (b : Nat) (l : List UInt8) (hl : (putB E Q ims)[b]? = some l) : stampedB (stampB E Q) l := by
  obtain ⟨_, _, _, _, _, h6, h7⟩ := rightG_out h
  have hm := List.mem_of_getElem? hl
  rcases List.mem_cons.1 hm with rfl | hm
  · exact stamped_spread (stampB_length _ _) (inB_length ims h6)
  · obtain ⟨x, hx, rfl⟩ := List.mem_map.1 hm
    exact stamped_mark (h7.1 x hx).2.2
theorem putB_length (E Q : Nat) (ims : List Img) : (putB E Q ims).length = ims.length + 1 := by simp [putB]
/-- Blocks as functions. -/
def tab (f : Nat → UInt8) : List UInt8 := (List.range 4096).map f
theorem tab_length (f : Nat → UInt8) : (tab f).length = 4096 := by simp [tab]
theorem bat_tab (f : Nat → UInt8) (k : Nat) (h : k < 4096) : bat (tab f) k = f k := by simp [tab, bat, h]
def tabs (n : Nat) (F : Nat → Nat → UInt8) : List (List UInt8) := (List.range n).map fun b => tab (F b)
theorem tabs_length (n : Nat) (F : Nat → Nat → UInt8) : (tabs n F).length = n := by simp [tabs]
theorem tabs_at (n : Nat) (F : Nat → Nat → UInt8) (b : Nat) (h : b < n) : (tabs n F)[b]? = some (tab (F b)) := by simp [tabs, h]
def updF (F : Nat → Nat → UInt8) (b j : Nat) (v : UInt8) : Nat → Nat → UInt8 := fun b' j' => if b' = b ∧ j' = j then v else F b' j'
theorem tabs_upd (n : Nat) (F : Nat → Nat → UInt8) (b j : Nat) (v : UInt8) (hj : j < 4096) (hb : b < n) : tabs n (updF F b j v) = (tabs n F).set b ((tab (F b)).set j v) := by
  refine List.ext_getElem? fun i => ?_
  rw [List.getElem?_set]
  by_cases hi : i < n
  · rw [tabs_at _ _ _ hi, tabs_at _ _ _ hi]
    by_cases e : b = i
    · subst e
      rw [if_pos rfl, if_pos (by rw [tabs_length]; exact hb)]
      congr 1
      refine bat_ext (by rw [tab_length, List.length_set, tab_length]) fun k hk => ?_
      rw [tab_length] at hk
      rw [bat_tab _ _ hk]
      unfold updF bat
      rw [List.getD_eq_getElem?_getD, List.getElem?_set]
      by_cases e2 : k = j
      · subst e2
        rw [if_pos ⟨rfl, rfl⟩, if_pos rfl, if_pos (by rw [tab_length]; exact hk)]
        rfl
      · rw [if_neg (fun h => e2 h.2), if_neg (fun h => e2 h.symm)]
        have := bat_tab (F b) k hk
        unfold bat at this
        rw [List.getD_eq_getElem?_getD] at this
        exact this.symm
    · rw [if_neg e]
      congr 1
      refine congrArg tab (funext fun k => ?_)
      unfold updF
      rw [if_neg (fun h => e h.1.symm)]
  · rw [List.getElem?_eq_none (by rw [tabs_length]; omega), if_neg (fun e => by omega), List.getElem?_eq_none (by rw [tabs_length]; omega)]
theorem tab_bat {l : List UInt8} (hl : l.length = 4096) (f : Nat → UInt8) (h : ∀ j, j < 4096 → f j = bat l j) : tab f = l :=
  bat_ext (by rw [tab_length, hl]) fun k hk => by
    rw [tab_length] at hk
    rw [bat_tab _ _ hk, h k hk]
theorem tabs_bat {ls : List (List UInt8)} (h4 : ∀ l ∈ ls, l.length = 4096) (n : Nat) (hn : n = ls.length) (F : Nat → Nat → UInt8) (h : ∀ b j, b < n → j < 4096 → F b j = bat (ls.getD b []) j) : tabs n F = ls := by
  subst hn
  refine List.ext_getElem? fun i => ?_
  by_cases hi : i < ls.length
  · rw [tabs_at _ _ _ hi, List.getElem?_eq_getElem hi]
    congr 1
    refine tab_bat (h4 _ (List.getElem_mem hi)) _ fun j hj => ?_
    rw [h i j hi hj, List.getD_eq_getElem?_getD, List.getElem?_eq_getElem hi]
    rfl
  · rw [List.getElem?_eq_none (by rw [tabs_length]; omega), List.getElem?_eq_none (by omega)]
def srcB (nz : Bool) (B : List (List UInt8)) (b j : Nat) : UInt8 := if nz = true ∨ B.length ≤ b then 0 else bat (B.getD b []) j
def mixF (nz : Bool) (A B : List (List UInt8)) (ks : List Nat) (b j : Nat) : UInt8 := if b * 8 + j / 512 ∈ ks then srcB nz B b j else bat (A.getD b []) j
theorem whole_law {E Q E' Q' : Nat} {ims ims' : List Img} (h1 : rightG (E : Int) (Q : Int) ims = true) (h2 : rightG (E' : Int) (Q' : Int) ims' = true) (hne : ¬ (E = E' ∧ Q = Q')) (ks : List Nat) (hks : ks ≠ []) (n : Nat) (hn : n = ims.length + 1)
    (hlt : ∀ k ∈ ks, k < 8 * n) (nz : Bool) (F : Nat → Nat → UInt8) (hF : ∀ b j, b < n → j < 4096 → F b j = mixF nz (putB E Q ims) (putB E' Q' ims') ks b j)
    (hok : getOK (tabs n F) = true) : tabs n F = putB E' Q' ims' := by
  obtain ⟨c1, c2, c3, c4, _, c6, c7⟩ := rightG_out h1
  obtain ⟨d1, d2, d3, d4, _, d6, d7⟩ := rightG_out h2
  have hn0 : 0 < n := by omega
  obtain ⟨t, ht⟩ : ∃ t, tabs n F = tab (F 0) :: t := by
    obtain ⟨m, rfl⟩ : ∃ m, n = m + 1 := ⟨n - 1, by omega⟩
    exact ⟨_, by unfold tabs; rw [List.range_succ_eq_map]; rfl⟩
  have hok' := hok
  rw [ht] at hok'
  simp only [getOK, Bool.and_eq_true, decide_eq_true_eq, List.all_eq_true] at hok'
  obtain ⟨⟨g1, g2⟩, g3⟩ := hok'
  obtain ⟨e, he⟩ : ∃ e, e = epOf (tab (F 0)) := ⟨_, rfl⟩
  obtain ⟨q, hq⟩ : ∃ q, q = seqOf (tab (F 0)) := ⟨_, rfl⟩
  have g0 : stmpD (tab (F 0)) (e : Int) (q : Int) = true := by
    unfold isHead at g1
    simp only [Bool.and_eq_true] at g1
    rw [he, hq]
    exact g1.1.1.1
  rw [← he, ← hq] at g3
  have hall : ∀ b j, b < n → j < 4096 → j % 512 < 8 → F b j = bat (stampB e q) (j % 512) := by
    intro b j hb hj hj8
    have hm : tab (F b) ∈ tab (F 0) :: t := by
      rw [← ht]
      exact List.mem_of_getElem? (tabs_at n F b hb)
    have hs : stmpD (tab (F b)) (e : Int) (q : Int) = true := by
      rcases List.mem_cons.1 hm with hm | hm
      · rw [hm]; exact g0
      · exact g3 _ hm
    have := (of_decide_eq_true hs).2.2.2.2.2 j hj hj8
    rw [bat_tab _ _ hj, Int.toNat_natCast, Int.toNat_natCast] at this
    exact this
  obtain ⟨i1, i2, i3, i4, _⟩ := of_decide_eq_true g0
  have secb : ∀ k r, k < 8 * n → r < 8 → F (k / 8) (k % 8 * 512 + r) = bat (stampB e q) r := by
    intro k r hk hr
    rw [hall (k / 8) (k % 8 * 512 + r) (by omega) (by omega) (by omega)]
    congr 1
    omega
  -- a sector that was lost bears the other's stamp
  have lost : ∀ k, k ∈ ks → ¬ (nz = true ∨ (putB E' Q' ims').length ≤ k / 8) ∧ e = E' ∧ q = Q' := by
    intro k hk
    have hk8 := hlt k hk
    have hsrc : ∀ r, r < 8 → srcB nz (putB E' Q' ims') (k / 8) (k % 8 * 512 + r) = bat (stampB e q) r := by
      intro r hr
      rw [← secb k r hk8 hr, hF (k / 8) (k % 8 * 512 + r) (by omega) (by omega)]
      unfold mixF
      rw [if_pos (by rw [show k / 8 * 8 + (k % 8 * 512 + r) / 512 = k by omega]; exact hk)]
    by_cases hz : nz = true ∨ (putB E' Q' ims').length ≤ k / 8
    · exfalso
      have h0 : ∀ r, r < 8 → bat (be 0 8) r = bat (stampB e q) r := by
        intro r hr
        rw [← hsrc r hr]
        unfold srcB
        rw [if_pos hz]
        rcases r with _ | _ | _ | _ | _ | _ | _ | _ | r
        all_goals first | rfl | omega
      have := stamp_nat h0 (by omega) (by omega)
      omega
    · refine ⟨hz, ?_⟩
      have hb : k / 8 < (putB E' Q' ims').length := by
        rcases Nat.lt_or_ge (k / 8) (putB E' Q' ims').length with h | h
        · exact h
        · exact absurd (.inr h) hz
      have hst := put_stamped h2 (k / 8) _ (List.getElem?_eq_getElem hb)
      have := stamp_eq (E := e) (Q := q) (e := E') (q := Q') (fun r hr => by
        rw [← hsrc r hr]
        unfold srcB
        rw [if_neg hz, List.getD_eq_getElem?_getD, List.getElem?_eq_getElem hb]
        have := hst.2 (k % 8 * 512 + r) (by omega) (by omega)
        rw [show (k % 8 * 512 + r) % 512 = r by omega] at this
        exact this) (by omega) (by omega) (by omega) (by omega)
      exact this
  obtain ⟨k0, hk0⟩ := List.exists_mem_of_ne_nil ks hks
  obtain ⟨_, rfl, rfl⟩ := lost k0 hk0
  -- no sector is left of the first
  have full : ∀ k, k < 8 * n → k ∈ ks := by
    intro k hk
    by_cases hm : k ∈ ks
    · exact hm
    · exfalso
      have hb : k / 8 < (putB E Q ims).length := by rw [putB_length]; omega
      have hst := put_stamped h1 (k / 8) _ (List.getElem?_eq_getElem hb)
      refine hne (stamp_eq (fun r hr => ?_) (by omega) (by omega) (by omega) (by omega))
      rw [← secb k r hk hr, hF (k / 8) (k % 8 * 512 + r) (by omega) (by omega)]
      unfold mixF
      rw [if_neg (by rw [show k / 8 * 8 + (k % 8 * 512 + r) / 512 = k by omega]; exact hm), List.getD_eq_getElem?_getD, List.getElem?_eq_getElem hb]
      have := hst.2 (k % 8 * 512 + r) (by omega) (by omega)
      rw [show (k % 8 * 512 + r) % 512 = r by omega] at this
      exact this.symm
  have hFB : ∀ b j, b < n → j < 4096 → F b j = bat ((putB e q ims').getD b []) j := by
    intro b j hb hj
    have hm := full (b * 8 + j / 512) (by omega)
    obtain ⟨hz, _⟩ := lost _ hm
    rw [hF b j hb hj]
    unfold mixF
    rw [if_pos hm]
    unfold srcB
    rw [if_neg (by rw [show (b * 8 + j / 512) / 8 = b by omega] at hz; exact hz)]
  have hnm : n ≤ ims'.length + 1 := by
    have hm := full (8 * (n - 1)) (by omega)
    obtain ⟨hz, _⟩ := lost _ hm
    rw [putB_length, show 8 * (n - 1) / 8 = n - 1 by omega] at hz
    rcases Nat.lt_or_ge (n - 1) (ims'.length + 1) with h | h
    · omega
    · exact absurd (.inr h) hz
  have h4 : ∀ l ∈ putB e q ims', l.length = 4096 := by
    intro l hl
    obtain ⟨i, hi, rfl⟩ := List.getElem_of_mem hl
    exact (put_stamped h2 i _ (List.getElem?_eq_getElem hi)).1
  have hhead : tab (F 0) = headB e q ims' := tab_bat (h4 _ (by simp [putB])) _ fun j hj => by rw [hFB 0 j hn0 hj]; rfl
  obtain ⟨_, _, _, p4, p5⟩ := head_put h2
  rw [hhead, p4, p5] at g2
  have htl : n = t.length + 1 := by
    have := congrArg List.length ht
    rw [tabs_length] at this
    simpa using this
  exact tabs_bat h4 n (by rw [putB_length]; omega) F hFB
end Go.Proofs.Ytknhfaplddgnlaa
