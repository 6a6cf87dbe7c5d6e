/- A call of a script on both disks: what it does, and what stays known. -/
import Derived.Test.YtddejjmebokgiaaRfM
namespace Go.Proofs.Ytddejjmebokgiaa
open Go.RowKit
variable {Q : Nat → Prop}
set_option maxHeartbeats 3200000
set_option linter.unusedVariables false
set_option linter.unusedSimpArgs false

/-- A call of a script: its numbers, its marks, where they lie. -/
structure Opr where
  k : Int
  n : Int
  sz : Int
  b : Int
  ks : List Bool
  ka : Option Addr
  kc : Nat
  s : Nat
def Opr.val (o : Opr) : Value := .agg #[.int .i64 o.k, .int .i64 o.n, .int .i64 o.sz, .int .i64 o.b, .slice o.ka o.ks.length o.kc, .int .u8 (o.s : Int)]
structure Opr.ok (w : World) (o : Opr) : Prop where
  s : o.s < 256
  kl : o.ks.length ≤ 200000000000000
  rd : RdV w o.ka (Bools o.ks)
  n : o.n ≤ 9223372036854775807
theorem Opr.ok.below {w w' : World} {o : Opr} (h : o.ok w) (b : Below w.heap.size w w') : o.ok w' := ⟨h.s, h.kl, h.rd.below b, h.n⟩
/-- The disk behind a call. -/
def playD (d : Dk) (o : Opr) : Dk :=
  if o.k = 1 then d.wrD o.n (madeB o.b (szN o.sz)) else if o.k = 2 then d.flD else if o.k = 4 then d.arm o.n else if o.k = 5 then d.fail o.n else if o.k = 6 then d.crash o.ks o.n o.s else d
theorem does_is {base : Nat} (w : World) (D : Nat) {S F : Nat → Prop} {v : Value} {d : Dk} (h : IsDk AnyB base w D S d) (hr : IsRf AnyB w F v d) (hsep : ∀ b, S b → ¬ F b) (hf : d.fit) (hw : d.wn.length < 1000000) (o : Opr) (ho : o.ok w)
    (hka : 0 < o.ks.length → ∀ x off, o.ka = some ⟨x, off, none⟩ → ¬ S x) :
    Calls Try.prog 34 #[ptr D, v, o.val] w (DoesP base w D S F d (playD d o)) := by
  obtain ⟨k, n, sz, b, ks, ka, kc, s⟩ := o
  obtain ⟨o1, o2, o3, o4⟩ := ho
  simp only at o1 o2 o3 o4 hka
  unfold playD Opr.val
  simp only
  by_cases e1 : k = 1
  · subst e1; simp only [if_true]; exact does_write w D h hr hsep hf hw n sz b ka _ kc s o1
  by_cases e2 : k = 2
  · subst e2; simp only [if_true, e1, if_false]; exact does_flush w D h hr hsep hf hw n sz b ka _ kc s o1
  by_cases e3 : k = 3
  · subst e3; simp only [e1, e2, if_false, show ¬ (3 : Int) = 4 by decide, show ¬ (3 : Int) = 5 by decide, show ¬ (3 : Int) = 6 by decide]; exact does_read w D h hr hsep hf hw n sz b ka _ kc s o1
  by_cases e4 : k = 4
  · subst e4; simp only [if_true, e1, e2, if_false]; exact does_arm w D h hr hsep hf hw n sz b ka _ kc s o1
  by_cases e5 : k = 5
  · subst e5; simp only [if_true, e1, e2, e4, if_false]; exact does_fail w D h hr hsep hf hw n sz b ka _ kc s o1
  by_cases e6 : k = 6
  · subst e6; simp only [if_true, e1, e2, e4, e5, if_false]; exact does_crash w D h hr hsep hf hw n sz b ks ka _ kc s o1 rfl o2 o3 hka
  simp only [e1, e2, e4, e5, e6, if_false]
  exact does_other w D h hr hsep hf hw n sz b k (by simpa using e1) (by simpa using e2) (by simpa using e3) (by simpa using e4) (by simpa using e5) (by simpa using e6) ka _ kc s o1
theorem fit_arm {d : Dk} (h : d.fit) (n : Int) (hn : n ≤ 9223372036854775807) : (d.arm n).fit := by
  obtain ⟨e1, e2, e3, e4, _, _⟩ := arm_same d n
  refine fit_same h e1 e2 e3 e4 ?_ ?_
  · unfold Dk.arm
    split
    · exact h.arm
    · intro _; exact ⟨by simp only; omega, hn⟩
  · unfold Dk.arm
    split <;> exact h.flt
theorem fit_fail {d : Dk} (h : d.fit) (n : Int) (hn : n ≤ 9223372036854775807) : (d.fail n).fit := by
  obtain ⟨e1, e2, e3, e4, _, _⟩ := fail_same d n
  refine fit_same h e1 e2 e3 e4 ?_ ?_
  · unfold Dk.fail
    split <;> exact h.arm
  · unfold Dk.fail
    split
    · exact h.flt
    · intro _; exact ⟨by simp only; omega, hn⟩
theorem fit_copy {d : Dk} (h : d.fit) : d.copy.fit := fit_same h rfl rfl rfl rfl h.arm h.flt
/-- A call keeps what is known; at most one write more. -/
theorem play_fit {d : Dk} (h : d.fit) (o : Opr) (hn : o.n ≤ 9223372036854775807) (hw : d.wn.length < 1000000) : (playD d o).fit ∧ (playD d o).wn.length ≤ d.wn.length + 1 ∧ (playD d o).now.length = d.now.length := by
  obtain ⟨s1, s2, s3, s4, s5⟩ := stopD_same d
  unfold playD
  split
  · unfold Dk.wrD
    split
    · exact ⟨h, by omega, rfl⟩
    · rename_i hwr
      split
      · exact ⟨h, by omega, rfl⟩
      · rename_i hl
        split
        · exact ⟨fit_stop h, by rw [s3]; omega, by rw [s2]⟩
        · have hin := wrong_in (d := d) (n := o.n) (by simpa using hwr)
          refine ⟨fit_put (fit_stop h) (by rw [s2]; exact hin.2) (by simpa using hl) (by rw [s3]; exact hw), by simp [Dk.put, s3], by simp [Dk.put, s2]⟩
  · split
    · unfold Dk.flD
      split
      · exact ⟨fit_stop h, by rw [s3]; omega, by rw [s2]⟩
      · exact ⟨fit_flush (fit_stop h), by simp [Dk.flush], by simp [Dk.flush, s2]⟩
    · split
      · obtain ⟨e1, e2, e3, e4, _, _⟩ := arm_same d o.n
        exact ⟨fit_arm h _ hn, by rw [e3]; omega, by rw [e2]⟩
      · split
        · obtain ⟨e1, e2, e3, e4, _, _⟩ := fail_same d o.n
          exact ⟨fit_fail h _ hn, by rw [e3]; omega, by rw [e2]⟩
        · split
          · refine ⟨fit_crash h _ _ _, by simp [Dk.crash], ?_⟩
            simp only [Dk.crash, crS_length]
            exact h.ok.len
          · exact ⟨h, by omega, rfl⟩
theorem fit_new (m : Nat) (h1 : 1 ≤ m) (h2 : m ≤ 512) : (newDk m).fit := by
  have hz : ∀ l ∈ List.replicate m (zeros 4096), l.length = 4096 := by
    intro l hl
    rw [(List.mem_replicate.1 hl).2, zeros_length]
  refine ⟨⟨rfl, by simp [newDk, mkDk]; omega, by simp [newDk, mkDk]; omega, rfl, by simp [newDk, mkDk], by simp [newDk, mkDk], hz, hz, by simp [newDk, mkDk]⟩, fun n hn => ?_, (fun h => by simp [newDk, mkDk] at h), (fun h => by simp [newDk, mkDk] at h)⟩
  simp [sncT, newDk, mkDk]
end Go.Proofs.Ytddejjmebokgiaa
