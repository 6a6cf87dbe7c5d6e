/- Blocks in memory, one of them stored into. -/
import Derived.Test.YtknhfaplddgnlaaWhole
namespace Go.Proofs.Ytknhfaplddgnlaa
open Go.RowKit
set_option maxHeartbeats 1000000
set_option maxRecDepth 100000
set_option linter.unusedVariables false
set_option linter.unusedSimpArgs false

/-- Numbers that lie there. -/
def RdI (w : World) (a : Option Addr) (l : List Int) : Prop := ∀ (i : Nat) (z : Int), l[i]? = some z → ∃ b off, a = some ⟨b, off, none⟩ ∧ w.cell? ⟨b, off + i, none⟩ = some (.int .i64 z)
theorem RdI.below {w w' : World} {a : Option Addr} {l : List Int} (h : RdI w a l) (k : Below w.heap.size w w') : RdI w' a l := by
  intro i z hz
  obtain ⟨b, off, h1, h2⟩ := h i z hz
  exact ⟨b, off, h1, cell_below k h2⟩
theorem OwLs.ne {base : Nat} {w : World} {L cL : Nat} {gs : List (Nat × Nat)} {ls : List (List UInt8)} (h : OwLs base w L cL gs ls) {p : Nat × Nat} (hp : p ∈ gs) : L ≠ p.1 := by
  intro e
  obtain ⟨cs, hc⟩ := h.blk.u8 hp
  have := row_no h.row (b := L) rfl (by rw [e]; exact hc)
  exact absurd this (by decide)
theorem OwLs.upd {base : Nat} {w w' : World} {L cL : Nat} {gs : List (Nat × Nat)} {ls : List (List UInt8)} (h : OwLs base w L cL gs ls) {i g cg : Nat} (hg : gs[i]? = some (g, cg)) (k : Kpt (fun b => b = g) w w') {l : List UInt8} (ho : OwnB base w' (some ⟨g, 0, none⟩) cg l) (hl : l.length = 4096) :
    OwLs base w' L cL gs (ls.set i l) := by
  have hL := h.ne (List.mem_of_getElem? hg)
  refine ⟨?_, ⟨?_, ?_, h.blk.dif⟩⟩
  · rw [List.length_set]
    exact ownsRow_kpt h.row k (fun b hb e => by
      simp only [Value.ownBlock, Option.map_some, Option.some.injEq] at hb
      exact hL (hb.trans e))
  · rw [List.length_set]
    exact h.blk.len
  · intro j p x hp hx
    rw [List.getElem?_set] at hx
    by_cases e : i = j
    · subst e
      rw [hg] at hp
      cases hp
      rw [if_pos rfl] at hx
      split at hx
      · cases hx
        exact ⟨ho, hl⟩
      · cases hx
    · rw [if_neg e] at hx
      obtain ⟨h1, h2⟩ := h.blk.own j p x hp hx
      refine ⟨h1.kpt k (fun e2 => ?_), h2⟩
      have hd := h.blk.dif
      rw [List.nodup_iff_pairwise_ne, List.pairwise_iff_getElem] at hd
      have hi := (List.getElem?_eq_some_iff.1 hg)
      have hj := (List.getElem?_eq_some_iff.1 hp)
      obtain ⟨hi1, hi2⟩ := hi
      obtain ⟨hj1, hj2⟩ := hj
      rcases Nat.lt_or_gt_of_ne e with h | h
      · exact hd i j (by simpa using hi1) (by simpa using hj1) h (by simp [hi2, hj2, e2])
      · exact hd j i (by simpa using hj1) (by simpa using hi1) h (by simp [hi2, hj2, e2])
/-- A store into one of the blocks. -/
theorem OwLs.put {base : Nat} {w : World} {L cL n : Nat} {gs : List (Nat × Nat)} {F : Nat → Nat → UInt8} (h : OwLs base w L cL gs (tabs n F)) {b g cg x : Nat} (hg : gs[b]? = some (g, cg)) (hb : b < n) (hx : x < 4096) (v : UInt8) :
    OwLs base (w.setCell ⟨g, x, none⟩ (.int .u8 (v.toNat : Int))) L cL gs (tabs n (updF F b x v)) := by
  rw [tabs_upd n F b x v hx hb]
  obtain ⟨ho, hl⟩ := h.blk.own b (g, cg) _ hg (tabs_at n F b hb)
  exact h.upd hg ((Kpt.refl (fun b => b = g) w).stc rfl _) (ho.store x v) (by rw [List.length_set, tab_length])
theorem mixF_cons {nz : Bool} {A B : List (List UInt8)} {ks : List Nat} {F F2 : Nat → Nat → UInt8} {n b s p : Nat} (hs : s < 8) (hp : p = b * 8 + s) (h1 : ∀ b' j', b' < n → j' < 4096 → F b' j' = mixF nz A B ks b' j')
    (h2 : ∀ b' j', F2 b' j' = if b' = b ∧ s * 512 ≤ j' ∧ j' < s * 512 + 512 then srcB nz B b' j' else F b' j') : ∀ b' j', b' < n → j' < 4096 → F2 b' j' = mixF nz A B (p :: ks) b' j' := by
  intro b' j' hb hj
  rw [h2]
  unfold mixF
  by_cases e : b' = b ∧ s * 512 ≤ j' ∧ j' < s * 512 + 512
  · rw [if_pos e, if_pos (List.mem_cons.2 (.inl (by omega)))]
  · rw [if_neg e, h1 b' j' hb hj]
    unfold mixF
    have : b' * 8 + j' / 512 ∈ p :: ks ↔ b' * 8 + j' / 512 ∈ ks := by
      rw [List.mem_cons]
      refine ⟨fun h => h.resolve_left (fun h => e ?_), .inr⟩
      omega
    by_cases m : b' * 8 + j' / 512 ∈ ks
    · rw [if_pos m, if_pos (this.2 m)]
    · rw [if_neg m, if_neg (fun h => m (this.1 h))]
theorem inner_step {nz : Bool} {B : List (List UInt8)} {F F2 : Nat → Nat → UInt8} {b s x : Nat} {v : UInt8} (hx : s * 512 ≤ x) (hv : v = srcB nz B b x)
    (h : ∀ b' j', F2 b' j' = if b' = b ∧ s * 512 ≤ j' ∧ j' < x then srcB nz B b' j' else F b' j') :
    ∀ b' j', updF F2 b x v b' j' = if b' = b ∧ s * 512 ≤ j' ∧ j' < x + 1 then srcB nz B b' j' else F b' j' := by
  intro b' j'
  unfold updF
  by_cases e : b' = b ∧ j' = x
  · obtain ⟨rfl, rfl⟩ := e
    rw [if_pos ⟨rfl, rfl⟩, if_pos ⟨rfl, hx, by omega⟩, hv]
  · rw [if_neg e, h]
    by_cases f : b' = b ∧ s * 512 ≤ j' ∧ j' < x
    · rw [if_pos f, if_pos ⟨f.1, f.2.1, by omega⟩]
    · rw [if_neg f, if_neg (fun g => f ⟨g.1, g.2.1, by
        rcases Nat.lt_or_ge j' x with h | h
        · exact h
        · exact absurd ⟨g.1, by omega⟩ e⟩)]
end Go.Proofs.Ytknhfaplddgnlaa
