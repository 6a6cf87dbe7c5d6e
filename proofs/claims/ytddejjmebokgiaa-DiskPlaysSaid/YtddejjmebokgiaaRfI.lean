/- does of law 04 (printed by gen04p.py). -/
import Derived.Test.YtddejjmebokgiaaRfH
namespace Go.Proofs.Ytddejjmebokgiaa
open Go.RowKit
variable {Q : Nat → Prop}
set_option maxHeartbeats 3200000
set_option maxRecDepth 100000
set_option linter.unusedVariables false
set_option linter.unusedSimpArgs false

theorem Kpt.up {S T : Nat → Prop} {w w3 wf : World} (h : Kpt S w w3) (k : Kpt T w3 wf) (hT : ∀ b, b < w.heap.size → ¬ T b) : Kpt S w wf :=
  ⟨k.os.trans h.os, k.tape.trans h.tape, k.output.trans h.output, Nat.le_trans h.size k.size, fun j hj hs => (k.block j (Nat.lt_of_lt_of_le hj h.size) (hT j hj)).trans (h.block j hj hs)⟩
theorem Turn.open3 {base : Nat} {w w' : World} {D : Nat} {S : Nat → Prop} {d' : Dk} (h : Turn Q base w D S w' d') : ∃ S', IsDk AnyB base w' D S' d' ∧ Kpt S w w' ∧ ∀ b, S' b → S b ∨ w.heap.size ≤ b := by
  obtain ⟨S', h1, h2, h3⟩ := h
  exact ⟨S', h1.monoQ (fun _ _ => trivial), h2, h3⟩
theorem rows4 (w : World) (o1 o2 o3 o4 : Obj) : ∃ w1, w1 = (((w.alloc o1).alloc o2).alloc o3).alloc o4 ∧ w1.heap[w.heap.size]? = some o1 ∧ w1.heap[w.heap.size + 1]? = some o2 ∧ w1.heap[w.heap.size + 2]? = some o3 ∧ w1.heap[w.heap.size + 3]? = some o4 ∧ Below w.heap.size w w1 ∧ w1.heap.size = w.heap.size + 4 := by
  refine ⟨_, rfl, ?_, ?_, ?_, ?_, ?_, ?_⟩
  · exact (Below.heap_alloc _ _ _ (by simp <;> omega)).trans ((Below.heap_alloc _ _ _ (by simp <;> omega)).trans ((Below.heap_alloc _ _ _ (by simp <;> omega)).trans (heap_alloc_new w _)))
  · exact (Below.heap_alloc _ _ _ (by simp <;> omega)).trans ((Below.heap_alloc _ _ _ (by simp <;> omega)).trans (row_two _ _ _))
  · have := heap_alloc_new ((w.alloc o1).alloc o2) o3
    rw [show ((w.alloc o1).alloc o2).heap.size = w.heap.size + 2 by simp] at this
    exact (Below.heap_alloc _ _ _ (by simp)).trans this
  · have := heap_alloc_new (((w.alloc o1).alloc o2).alloc o3) o4
    rw [show (((w.alloc o1).alloc o2).alloc o3).heap.size = w.heap.size + 3 by simp] at this
    exact this
  · exact (((((Below.refl _ _).alloc (Nat.le_refl _) _).alloc (by simp) _).alloc (by simp; omega) _).alloc (by simp; omega) _)
  · simp
/-- What a call of the script leaves. -/
def DoesP (base : Nat) (w : World) (D : Nat) (S F : Nat → Prop) (d d' : Dk) (e : Ending) (w' : World) : Prop :=
  ∃ (v' : Value) (S' F' : Nat → Prop), e = .returned (.tuple #[v', .bool true]) ∧ IsDk AnyB base w' D S' d' ∧ IsRf AnyB w' F' v' d' ∧ (∀ b, S' b → ¬ F' b) ∧ Kpt S w w' ∧ (∀ b, S' b → S b ∨ w.heap.size ≤ b) ∧ (∀ b, F' b → F b ∨ w.heap.size ≤ b)
theorem DoesP.cast {base : Nat} {w wf : World} {D : Nat} {S F : Nat → Prop} {d d' x : Dk} {e : Ending} (h : DoesP base w D S F d x e wf) (hx : x = d') : DoesP base w D S F d d' e wf := hx ▸ h
/-- The end: the answer's own cells. -/
theorem does_end {base : Nat} {w w1 w2 w3 wf : World} {D : Nat} {S F S2 F3 : Nat → Prop} {v' : Value} {d d' : Dk} {p q : Nat} {cp cq : Array Value} (hS : ∀ b, S b → b < w.heap.size) (hF : ∀ b, F b → b < w.heap.size) (hsep : ∀ b, S b → ¬ F b) (hp : w.heap.size ≤ p) (hq : w.heap.size ≤ q) (hp2 : p < w1.heap.size) (hq2 : q < w1.heap.size) (h12 : w1.heap.size ≤ w2.heap.size)
    (i3 : IsDk AnyB base w3 D S2 d') (hs2 : ∀ b, S2 b → S b ∨ w1.heap.size ≤ b) (hv : IsRf AnyB w3 F3 v' d') (hf3 : ∀ b, F3 b → F b ∨ w2.heap.size ≤ b) (hlt : ∀ b, S2 b → b < w2.heap.size) (k3 : Kpt S w w3) (hss : ∀ b, S2 b → S b ∨ w.heap.size ≤ b)
    (rp : w3.heap[p]? = some (.cells cp 59 (0, 0))) (rq : w3.heap[q]? = some (.cells cq 59 (0, 0))) (kf : Kpt (fun b => b = p ∨ b = q) w3 wf) (h23 : w2.heap.size ≤ w3.heap.size) (e : Ending) (he : e = .returned (.tuple #[v', .bool true])) : DoesP base w D S F d d' e wf := by
  have hu : ∀ b, b = p ∨ b = q → ¬ U8 w3 b := by
    rintro b (rfl | rfl)
    · exact row_not_u8 rp (by decide)
    · exact row_not_u8 rq (by decide)
  have hsz : w.heap.size ≤ w3.heap.size := k3.size
  refine ⟨v', S2, F3, he, i3.kpt kf hu (fun b hb e => ?_), hv.kpt kf hu (fun b hb e => ?_), fun b hb hb2 => ?_, k3.up kf ?_, hss, fun b hb => (hf3 b hb).imp id (fun h => by omega)⟩
  · rcases hs2 b hb with h | h
    · have := hS b h; omega
    · omega
  · rcases hf3 b hb with h | h
    · have := hF b h; omega
    · omega
  · rcases hs2 b hb with h | h
    · rcases hf3 b hb2 with h2 | h2
      · exact hsep b h h2
      · have := hS b h; omega
    · rcases hf3 b hb2 with h2 | h2
      · have := hF b h2; have := k3.size; omega
      · have := hlt b hb; omega
  · rintro b hb (rfl | rfl) <;> omega

end Go.Proofs.Ytddejjmebokgiaa
