/- DiskSectors: the plain law. -/
import Derived.Test.YtddejjmebokgiaaLaw04j
namespace Go.Proofs.Ytddejjmebokgiaa
open Go.RowKit
variable {Q : Nat → Prop}
set_option maxHeartbeats 3200000
set_option maxRecDepth 100000
set_option linter.unusedVariables false
set_option linter.unusedSimpArgs false

/-- Sector q of a block. -/
def sec (l : List UInt8) (q : Nat) : List UInt8 := (l.drop (q * 512)).take 512
theorem sec_torn {a b : List UInt8} (s q : Nat) (ha : a.length = 4096) (hb : b.length = 4096) (hq : q < 8) : sec (tornB a b s) q = if sb s q = true then sec b q else sec a q := by
  have hl : (sec (tornB a b s) q).length = 512 := by simp [sec, tornB_length]; omega
  have hx : ∀ c : List UInt8, c.length = 4096 → (∀ k, k < 512 → bat (tornB a b s) (q * 512 + k) = bat c (q * 512 + k)) → sec (tornB a b s) q = sec c q := by
    intro c hc h
    have hcl : (sec c q).length = 512 := by simp [sec, hc]; omega
    apply List.ext_getElem (by rw [hl, hcl])
    intro k h1 h2
    have hk : k < 512 := by rw [hl] at h1; exact h1
    have := h k hk
    simp only [sec, List.getElem_take, List.getElem_drop]
    have e1 : q * 512 + k < (tornB a b s).length := by rw [tornB_length]; omega
    have e2 : q * 512 + k < c.length := by omega
    simpa [bat, List.getD_eq_getElem?_getD, List.getElem?_eq_getElem e1, List.getElem?_eq_getElem e2] using this
  have hbat : ∀ k, k < 512 → bat (tornB a b s) (q * 512 + k) = if sb s q = true then bat b (q * 512 + k) else bat a (q * 512 + k) := by
    intro k hk
    have e1 : q * 512 + k < (tornB a b s).length := by rw [tornB_length]; omega
    have e2 : (q * 512 + k) / 512 = q := by omega
    have e3 : q * 512 + k < 512 * 8 := by omega
    unfold bat
    rw [List.getD_eq_getElem?_getD, List.getElem?_eq_getElem e1]
    simp [tornB, tornTo, e2, e3, bat]
  split
  · next h => exact hx b hb (fun k hk => by rw [hbat k hk, if_pos h])
  · next h => exact hx a ha (fun k hk => by rw [hbat k hk, if_neg h])
/-- Behind a crash's first j writes: each sector is one of the block's writes'; but for the torn one a block is wholly one of these. -/
theorem crash_inv {d : Dk} (ho : d.ok) (ks : List Bool) (at_ : Int) (s : Nat) : ∀ j, j ≤ d.wn.length → ∀ n, n < d.safe.length →
    (∀ q, q < 8 → ∃ l ∈ sncT d j n, sec ((d.crS ks at_ s j).getD n []) q = sec l q) ∧ ((d.crS ks at_ s j).getD n [] ∈ sncT d j n ∨ ∃ i : Nat, (i : Int) = at_ ∧ d.wn.getD i 0 = n)
  | 0, _, n, hn => ⟨fun q _ => ⟨d.safe.getD n [], by simp [sncT], rfl⟩, .inl (by simp [sncT, Dk.crS])⟩
  | j + 1, hj, n, hn => by
    obtain ⟨ih1, ih2⟩ := crash_inv ho ks at_ s j (by omega) n hn
    have hj1 : j < d.wn.length := by omega
    have hw : d.wn.getD j 0 < d.safe.length := by
      rw [List.getD_eq_getElem?_getD, List.getElem?_eq_getElem hj1, ho.len]
      exact ho.win _ (List.getElem_mem hj1)
    have hb4 : (d.wd.getD j []).length = 4096 := by
      have : j < d.wd.length := by have := ho.wlen; omega
      rw [List.getD_eq_getElem?_getD, List.getElem?_eq_getElem this]
      exact ho.w4 _ (List.getElem_mem this)
    have hsub : ∀ l, l ∈ sncT d j n → l ∈ sncT d (j + 1) n := by
      intro l hl
      rw [sncT_succ ho.wlen hj1]
      split
      · exact List.mem_append_left _ hl
      · exact hl
    have hold : (d.crS ks at_ s j).getD n [] = (d.crS ks at_ s j).getD n [] := rfl
    have h4 : ((d.crS ks at_ s j).getD n []).length = 4096 := by
      have hln : n < (d.crS ks at_ s j).length := by rw [crS_length]; exact hn
      rw [List.getD_eq_getElem?_getD, List.getElem?_eq_getElem hln]
      exact crS_4 ho ks at_ s j (by omega) _ (List.getElem_mem hln)
    have keep : (d.crS ks at_ s (j + 1)).getD n [] = (d.crS ks at_ s j).getD n [] → (∀ q, q < 8 → ∃ l ∈ sncT d (j + 1) n, sec ((d.crS ks at_ s (j + 1)).getD n []) q = sec l q) ∧ ((d.crS ks at_ s (j + 1)).getD n [] ∈ sncT d (j + 1) n ∨ ∃ i : Nat, (i : Int) = at_ ∧ d.wn.getD i 0 = n) := by
      intro e
      rw [e]
      refine ⟨fun q hq => ?_, ih2.imp (hsub _) id⟩
      obtain ⟨l, h1, h2⟩ := ih1 q hq
      exact ⟨l, hsub l h1, h2⟩
    by_cases hat : (j : Int) = at_
    · by_cases e : n = d.wn.getD j 0
      · have hX : (d.crS ks at_ s (j + 1)).getD n [] = tornB ((d.crS ks at_ s j).getD n []) (d.wd.getD j []) s := by
          rw [crS_at hat, getD_set _ _ _ _ _ (by rw [crS_length]; exact hw), if_pos e, ← e]
        rw [hX]
        refine ⟨fun q hq => ?_, .inr ⟨j, hat, e.symm⟩⟩
        rw [sec_torn s q h4 hb4 hq]
        split
        · refine ⟨d.wd.getD j [], ?_, rfl⟩
          rw [sncT_succ ho.wlen hj1, if_pos e]
          simp
        · obtain ⟨l, h1, h2⟩ := ih1 q hq
          exact ⟨l, hsub l h1, h2⟩
      · refine keep ?_
        rw [crS_at hat, getD_set _ _ _ _ _ (by rw [crS_length]; exact hw), if_neg e]
    · by_cases hk : ks.getD j false = true
      · by_cases e : n = d.wn.getD j 0
        · have hX : (d.crS ks at_ s (j + 1)).getD n [] = d.wd.getD j [] := by
            rw [crS_keep hat hk, getD_set _ _ _ _ _ (by rw [crS_length]; exact hw), if_pos e]
          have hm : d.wd.getD j [] ∈ sncT d (j + 1) n := by
            rw [sncT_succ ho.wlen hj1, if_pos e]
            simp
          rw [hX]
          exact ⟨fun q hq => ⟨_, hm, rfl⟩, .inl hm⟩
        · refine keep ?_
          rw [crS_keep hat hk, getD_set _ _ _ _ _ (by rw [crS_length]; exact hw), if_neg e]
      · refine keep ?_
        rw [crS_drop hat (by simpa using hk)]
/-- How many of the first n are not so. -/
def cntF (f : Nat → Bool) : Nat → Nat
  | 0 => 0
  | k + 1 => cntF f k + (if f k then 0 else 1)
theorem cnt_one {f : Nat → Bool} (h : ∀ m n, m < 4 → n < 4 → f m = false → f n = false → m = n) : cntF f 4 ≤ 1 := by
  have h01 := h 0 1 (by decide) (by decide); have h02 := h 0 2 (by decide) (by decide); have h03 := h 0 3 (by decide) (by decide)
  have h12 := h 1 2 (by decide) (by decide); have h13 := h 1 3 (by decide) (by decide); have h23 := h 2 3 (by decide) (by decide)
  simp only [cntF]
  clear h
  generalize f 0 = a at *
  generalize f 1 = b at *
  generalize f 2 = c at *
  generalize f 3 = e at *
  cases a <;> cases b <;> cases c <;> cases e <;> simp_all
theorem cnt_le (f : Nat → Bool) : ∀ n, cntF f n ≤ n
  | 0 => Nat.le_refl _
  | n + 1 => by have := cnt_le f n; simp only [cntF]; split <;> omega
/-- Is the block behind the crash wholly one of the block's writes'? -/
def whF (d x : Dk) (n : Nat) : Bool := (snc d n).any fun l => x.now.getD n [] == l
theorem sectors_law {d : Dk} (hg : d.good) (ks : List Bool) (at_ : Int) (s : Nat) :
    (∀ n, n < 4 → ∀ q, q < 8 → ((snc d n).any fun l => sec ((d.crash ks at_ s).now.getD n []) q == sec l q) = true) ∧ cntF (whF d (d.crash ks at_ s)) 4 ≤ 1 := by
  have hi := fun n (hn : n < 4) => crash_inv hg.ok ks at_ s d.wn.length (Nat.le_refl _) n (by rw [hg.ok.len, hg.four]; exact hn)
  refine ⟨fun n hn q hq => ?_, cnt_one (fun m n hm hn h1 h2 => ?_)⟩
  · obtain ⟨l, h1, h2⟩ := (hi n hn).1 q hq
    rw [sncT_all d hg.ok.wlen] at h1
    rw [List.any_eq_true]
    exact ⟨l, h1, beq_iff_eq.mpr h2⟩
  · have key : ∀ n, n < 4 → whF d (d.crash ks at_ s) n = false → ∃ i : Nat, (i : Int) = at_ ∧ d.wn.getD i 0 = n := by
      intro n hn h
      rcases (hi n hn).2 with h' | h'
      · rw [sncT_all d hg.ok.wlen] at h'
        have : whF d (d.crash ks at_ s) n = true := by
          unfold whF
          rw [List.any_eq_true]
          exact ⟨_, h', by simp [Dk.crash]⟩
        rw [this] at h
        cases h
      · exact h'
    obtain ⟨i, e1, e2⟩ := key m hm h1
    obtain ⟨j, e3, e4⟩ := key n hn h2
    have : i = j := by omega
    subst this
    exact e2.symm.trans e4
end Go.Proofs.Ytddejjmebokgiaa
