/- Texts joined: Pl, PlA, PlB, Lay. -/
import Derived.Test.YtahlhdhljjpeoaaGBitsOnce1
import Derived.Test.YtahlhdhljjpeoaaGBitsOnce2
/- A plain space in memory: what is said of it, and what keeps it. -/
namespace Go.Proofs.Ytahlhdhljjpeoaa
open Go.RowKit
variable {Q : Nat → Prop}
set_option maxHeartbeats 3200000
set_option linter.unusedVariables false
set_option linter.unusedSimpArgs false

/-- A space: its blocks, is there an end, how many answers are left, how many writes were made. -/
structure Pl where
  b : List (List UInt8)
  ends : Bool
  left : Int
  did : Nat
structure Pl.ok (d : Pl) : Prop where
  pos : 0 < d.b.length
  max : d.b.length ≤ 512
  b4 : ∀ l ∈ d.b, l.length = 4096
  lo : -1000000000 ≤ d.left
  hi : d.left ≤ 1000000000
def plC (vb vd : Value) (d : Pl) : Array Value := #[vb, .bool d.ends, .int .i64 d.left, vd]
def footP (P : Nat) (vb vd : Value) (b : Nat) : Prop := b = P ∨ vb.ownBlock = some b ∨ vd.ownBlock = some b
structure PrtP (Q : Nat → Prop) (base : Nat) (w : World) (d : Pl) (vb vd : Value) : Prop where
  b : ∃ xs gb cb, vb = .slice (some ⟨gb, 0, none⟩) d.b.length cb ∧ w.ownsRow base 61 1 vb d.b.length xs ∧ Dats Q w xs d.b
  d : ∃ xd A c, vd = .slice A d.did c ∧ w.ownsRow base 3 1 vd d.did xd
/-- At P lies this space; its blocks are S. -/
def IsPl (Q : Nat → Prop) (base : Nat) (w : World) (P : Nat) (S : Nat → Prop) (d : Pl) : Prop :=
  ∃ vb vd, S = footP P vb vd ∧ base ≤ P ∧ w.heap[P]? = some (.cells (plC vb vd d) 50 (0, 0)) ∧ PrtP Q base w d vb vd ∧ d.ok
theorem IsPl.blocks {base : Nat} {w : World} {P : Nat} {S : Nat → Prop} {d : Pl} (h : IsPl Q base w P S d) {b : Nat} (hb : S b) : base ≤ b ∧ b < w.heap.size ∧ ¬ U8 w b := by
  obtain ⟨vb, vd, rfl, hP, hr, hp, ho⟩ := h
  rcases hb with rfl | hb | hb
  · exact ⟨hP, heap_in hr, row_not_u8 hr (by decide)⟩
  · obtain ⟨xs, gs, cs, _, h1, _⟩ := hp.b
    obtain ⟨h2, h3, cs, h4⟩ := own_row h1 hb
    exact ⟨h2, h3, row_not_u8 h4 (by decide)⟩
  · obtain ⟨xs, A, c, _, h1⟩ := hp.d
    obtain ⟨h2, h3, cs, h4⟩ := own_row h1 hb
    exact ⟨h2, h3, row_not_u8 h4 (by decide)⟩
theorem IsPl.nou {base : Nat} {w : World} {P : Nat} {S : Nat → Prop} {d : Pl} (h : IsPl Q base w P S d) : ∀ b, S b → ¬ U8 w b := fun b hb => (h.blocks hb).2.2
theorem IsPl.ok {base : Nat} {w : World} {P : Nat} {S : Nat → Prop} {d : Pl} (h : IsPl Q base w P S d) : d.ok := by
  obtain ⟨vb, vd, rfl, hP, hr, hp, ho⟩ := h
  exact ho
theorem PrtP.kpt {T : Nat → Prop} {base : Nat} {w w' : World} {d : Pl} {vb vd : Value} (h : PrtP Q base w d vb vd) (k : Kpt T w w') (hT : ∀ b, T b → ¬ U8 w b)
    (h1 : ∀ b, vb.ownBlock = some b → ¬ T b) (h2 : ∀ b, vd.ownBlock = some b → ¬ T b) : PrtP Q base w' d vb vd := by
  obtain ⟨⟨xs, gs, cs, a1, a2, a3⟩, ⟨xd, A, c, b1, b2⟩⟩ := h
  exact ⟨⟨xs, gs, cs, a1, own_kpt a2 k h1, a3.kpt k hT⟩, ⟨xd, A, c, b1, own_kpt b2 k h2⟩⟩
theorem IsPl.kpt {T : Nat → Prop} {base : Nat} {w w' : World} {P : Nat} {S : Nat → Prop} {d : Pl} (h : IsPl Q base w P S d) (k : Kpt T w w') (hT : ∀ b, T b → ¬ U8 w b) (hST : ∀ b, S b → ¬ T b) : IsPl Q base w' P S d := by
  obtain ⟨vb, vd, rfl, hP, hr, hp, ho⟩ := h
  exact ⟨vb, vd, rfl, hP, (k.block P (heap_in hr) (hST P (.inl rfl))).trans hr, hp.kpt k hT (fun b hb => hST b (.inr (.inl hb))) (fun b hb => hST b (.inr (.inr hb))), ho⟩
theorem IsPl.below {base : Nat} {w w' : World} {P : Nat} {S : Nat → Prop} {d : Pl} (h : IsPl Q base w P S d) (k : Below w.heap.size w w') : IsPl Q base w' P S d := h.kpt (T := fun _ => False) (.of_below k) (fun _ h => h.elim) (fun _ _ h => h)
theorem IsPl.lt {base : Nat} {w : World} {P : Nat} {S : Nat → Prop} {d : Pl} (h : IsPl Q base w P S d) : P < w.heap.size := by
  obtain ⟨vb, vd, rfl, hP, hr, hp, ho⟩ := h
  exact heap_in hr
/-- The state behind one answer. -/
def Pl.tick (d : Pl) : Pl := if d.ends = true then { d with left := d.left - 1 } else d
/-- Is it spent, then? -/
def Pl.spent (d : Pl) : Bool := d.ends && decide (d.left - 1 < 0)
def Pl.put (d : Pl) (n : Nat) (l : List UInt8) : Pl := { d with b := d.b.set n l, did := d.did + 1 }
theorem four {w : World} {g : Nat} {t : TypeId} {x0 x1 x2 x3 : Value} (h : w.heap[g]? = some (.cells #[x0, x1, x2, x3] t (0, 0))) :
    w.cell? ⟨g, 0, none⟩ = some x0 ∧ w.cell? ⟨g, 1, none⟩ = some x1 ∧ w.cell? ⟨g, 2, none⟩ = some x2 ∧ w.cell? ⟨g, 3, none⟩ = some x3 := by
  refine ⟨?_, ?_, ?_, ?_⟩ <;> (rw [cell_of_row _ _ _ _ _ _ h]; rfl)
/-- What an operation does: the space then, and what lies in no block of its. -/
def TurnP (Q : Nat → Prop) (base : Nat) (w : World) (P : Nat) (S : Nat → Prop) (w' : World) (d' : Pl) : Prop := ∃ S', IsPl Q base w' P S' d' ∧ Kpt S w w' ∧ ∀ b, S' b → S b ∨ w.heap.size ≤ b
theorem IsPl.still {base : Nat} {w w' : World} {P : Nat} {S : Nat → Prop} {d : Pl} (h : IsPl Q base w P S d) (k : Below w.heap.size w w') : TurnP Q base w P S w' d :=
  ⟨S, h.below k, .of_below k, fun b hb => .inl hb⟩
theorem Kpt.upP {S T : Nat → Prop} {w A A' : World} (h : Kpt S w A) (k : Kpt T A A') (ht : ∀ b, T b → S b ∨ w.heap.size ≤ b) : Kpt S w A' :=
  ⟨k.os.trans h.os, k.tape.trans h.tape, k.output.trans h.output, Nat.le_trans h.size k.size, fun j hj hs => (k.block j (Nat.lt_of_lt_of_le hj h.size) (fun e => (ht j e).elim hs (fun h => by omega))).trans (h.block j hj hs)⟩
theorem TurnP.trans {base : Nat} {w w1 w2 : World} {P : Nat} {S S1 : Nat → Prop} {d2 : Pl} (h1 : Kpt S w w1) (h2 : ∀ b, S1 b → S b ∨ w.heap.size ≤ b) (h : TurnP Q base w1 P S1 w2 d2) : TurnP Q base w P S w2 d2 := by
  obtain ⟨S2, a1, a2, a3⟩ := h
  refine ⟨S2, a1, h1.upP a2 h2, fun b hb => ?_⟩
  rcases a3 b hb with h | h
  · exact h2 b h
  · exact .inr (Nat.le_trans h1.size h)
theorem own_noT {w : World} {base n size : Nat} {e : TypeId} {v : Value} {xs : List Value} (h : w.ownsRow base e size v n xs) {P : Nat} {cs : Array Value} {t : TypeId} (hr : w.heap[P]? = some (.cells cs t (0, 0))) (ht : e ≠ t) : ∀ b, v.ownBlock = some b → b ≠ P := by
  rintro b hb rfl
  obtain ⟨_, _, cs', h4⟩ := own_row h hb
  rw [hr] at h4
  simp only [Option.some.injEq, Obj.cells.injEq] at h4
  exact ht h4.2.1.symm
theorem IsPl.inS {base : Nat} {w : World} {P : Nat} {S : Nat → Prop} {d : Pl} (h : IsPl Q base w P S d) : S P := by
  obtain ⟨vb, vd, rfl, _⟩ := h
  exact .inl rfl
/-- The count is stored. -/
theorem IsPl.setLeft {base : Nat} {w : World} {P : Nat} {S : Nat → Prop} {d : Pl} (h : IsPl Q base w P S d) (x : Int) (hx : -1000000000 ≤ x ∧ x ≤ 1000000000) :
    IsPl Q base (w.setCell ⟨P, 2, none⟩ (.int .i64 x)) P S { d with left := x } ∧ Kpt (fun b => b = P) w (w.setCell ⟨P, 2, none⟩ (.int .i64 x)) := by
  have k : Kpt (fun b => b = P) w (w.setCell ⟨P, 2, none⟩ (.int .i64 x)) := Kpt.setCell (Kpt.refl (fun b => b = P) w) rfl _
  have hnu : ∀ b, b = P → ¬ U8 w b := by rintro b rfl; exact h.nou _ h.inS
  obtain ⟨vb, vd, rfl, hP, hr, hp, ho⟩ := h
  obtain ⟨⟨xs, gs, cs, a1, a2, a3⟩, ⟨xd, A, c, b1, b2⟩⟩ := hp
  refine ⟨⟨vb, vd, rfl, hP, heap_setCell_same _ _ 2 _ _ _ hr, ⟨⟨xs, gs, cs, a1, own_kpt a2 k (own_noT a2 hr (by decide)), a3.kpt k hnu⟩, ⟨xd, A, c, b1, own_kpt b2 k (own_noT b2 hr (by decide))⟩⟩, ⟨ho.pos, ho.max, ho.b4, hx.1, hx.2⟩⟩, k⟩
/-- A block is stored. -/
theorem IsPl.setB {base : Nat} {w : World} {P : Nat} {d : Pl} {gb cb : Nat} {vd : Value} (h : IsPl Q base w P (footP P (.slice (some ⟨gb, 0, none⟩) d.b.length cb) vd) d)
    (hr : w.heap[P]? = some (.cells (plC (.slice (some ⟨gb, 0, none⟩) d.b.length cb) vd d) 50 (0, 0))) (n : Nat) (hn : n < d.b.length) {u : Value} {l : List UInt8} (hu : Dat Q w u l) (hl : l.length = 4096) :
    IsPl Q base (w.setCell ⟨gb, n, none⟩ u) P (footP P (.slice (some ⟨gb, 0, none⟩) d.b.length cb) vd) { d with b := d.b.set n l } ∧ Kpt (fun b => b = gb) w (w.setCell ⟨gb, n, none⟩ u) ∧ (w.setCell ⟨gb, n, none⟩ u).heap[P]? = some (.cells (plC (.slice (some ⟨gb, 0, none⟩) d.b.length cb) vd d) 50 (0, 0)) := by
  have k : Kpt (fun b => b = gb) w (w.setCell ⟨gb, n, none⟩ u) := Kpt.setCell (Kpt.refl (fun b => b = gb) w) rfl _
  have hnu : ∀ b, b = gb → ¬ U8 w b := by rintro b rfl; exact h.nou _ (.inr (.inl rfl))
  obtain ⟨vb', vd', hS, hP, hr', hp, ho⟩ := h
  rw [hr] at hr'
  simp only [Option.some.injEq, Obj.cells.injEq, plC, Array.mk.injEq, List.cons.injEq, and_true, true_and] at hr'
  obtain ⟨rfl, rfl⟩ := hr'
  obtain ⟨⟨xs, gs, cs, a1, a2, a3⟩, ⟨xd, A, c, b1, b2⟩⟩ := hp
  simp only [Value.slice.injEq, Option.some.injEq, Addr.mk.injEq, and_true, true_and] at a1
  obtain ⟨rfl, rfl⟩ := a1
  have hgP : gb ≠ P := own_noT a2 hr (by decide) gb rfl
  have hst := (World.ownsRow.stored a2 n u).1
  have hr2 := (k.block P (heap_in hr) (fun e => hgP e.symm)).trans hr
  refine ⟨⟨_, vd, rfl, hP, ?_, ⟨⟨xs.set n u, gb, cb, by simp, by simpa using hst, (a3.kpt k hnu).set n (hu.kpt k hnu)⟩, ⟨xd, A, c, b1, own_kpt b2 k (fun b hb e => ?_)⟩⟩, ⟨by simpa using ho.pos, by simpa using ho.max, fun x hx => ?_, ho.lo, ho.hi⟩⟩, k, hr2⟩
  · simpa [plC] using hr2
  · obtain ⟨_, _, cs1, h4⟩ := own_row b2 hb
    obtain ⟨_, _, cs2, h5⟩ := own_row a2 (b := gb) rfl
    rw [e, h5] at h4
    simp only [Option.some.injEq, Obj.cells.injEq] at h4
    exact absurd h4.2.1 (by decide)
  · rcases List.mem_or_eq_of_mem_set hx with hx | rfl
    · exact ho.b4 x hx
    · exact hl
/-- The list of what was written grows. -/
theorem IsPl.setD {base : Nat} {w w3 : World} {P : Nat} {d : Pl} {vb vd : Value} (h : IsPl Q base w P (footP P vb vd) d)
    (hr : w.heap[P]? = some (.cells (plC vb vd d) 50 (0, 0))) {A1 : Option Addr} {c1 : Nat} {xs : List Value} (hown : w3.ownsRow base 3 1 (.slice A1 (d.did + 1) c1) (d.did + 1) xs) (hg : Kpt (fun b => vd.ownBlock = some b) w w3)
    (hat : ∀ b, (Value.slice A1 (d.did + 1) c1).ownBlock = some b → vd.ownBlock = some b ∨ w.heap.size ≤ b) :
    TurnP Q base w P (footP P vb vd) (w3.setCell ⟨P, 3, none⟩ (.slice A1 (d.did + 1) c1)) { d with did := d.did + 1 } := by
  obtain ⟨vb', vd', hS, hP, hr', hp, ho⟩ := h
  rw [hr] at hr'
  simp only [Option.some.injEq, Obj.cells.injEq, plC, Array.mk.injEq, List.cons.injEq, and_true, true_and] at hr'
  obtain ⟨rfl, rfl⟩ := hr'
  obtain ⟨⟨xb, gs, cs, a1, a2, a3⟩, ⟨xd, A, c, b1, b2⟩⟩ := hp
  have hPd : ∀ b, vd.ownBlock = some b → b ≠ P := own_noT b2 hr (by decide)
  have hr3 : w3.heap[P]? = some (.cells (plC vb vd d) 50 (0, 0)) := (hg.block P (heap_in hr) (fun e => hPd P e rfl)).trans hr
  have hnd : ∀ b, vd.ownBlock = some b → ¬ U8 w b := fun b hb => by
    obtain ⟨_, _, cs1, h4⟩ := own_row b2 hb
    exact row_not_u8 h4 (by decide)
  have a23 := own_kpt a2 hg (fun b hb e => by
    obtain ⟨_, _, cs1, h4⟩ := own_row b2 e
    obtain ⟨_, _, cs2, h5⟩ := own_row a2 hb
    rw [h5] at h4
    simp only [Option.some.injEq, Obj.cells.injEq] at h4
    exact absurd h4.2.1 (by decide))
  have a33 := a3.kpt hg hnd
  have k : Kpt (fun b => b = P) w3 (w3.setCell ⟨P, 3, none⟩ (.slice A1 (d.did + 1) c1)) := Kpt.setCell (Kpt.refl (fun b => b = P) w3) rfl _
  refine ⟨footP P vb (.slice A1 (d.did + 1) c1), ⟨vb, _, rfl, hP, heap_setCell_same _ _ 3 _ _ _ hr3, ⟨⟨xb, gs, cs, a1, own_kpt a23 k (own_noT a23 hr3 (by decide)), a33.kpt k (by rintro b rfl; exact row_not_u8 hr3 (by decide))⟩, ⟨xs, A1, c1, rfl, own_kpt hown k (own_noT hown hr3 (by decide))⟩⟩, ⟨ho.pos, ho.max, ho.b4, ho.lo, ho.hi⟩⟩, ?_, ?_⟩
  · exact (hg.mono fun b hb => .inr (.inr hb)).trans (k.mono fun b hb => .inl hb)
  · rintro b (hb | hb | hb)
    · exact .inl (.inl hb)
    · exact .inl (.inr (.inl hb))
    · exact (hat b hb).imp (fun h => .inr (.inr h)) id
end Go.Proofs.Ytahlhdhljjpeoaa

/- Plain: spent, Read. -/
namespace Go.Proofs.Ytahlhdhljjpeoaa
open Go.RowKit
variable {Q : Nat → Prop}
set_option maxHeartbeats 1500000
set_option maxRecDepth 100000
set_option linter.unusedVariables false
set_option linter.unusedSimpArgs false

theorem IsPl.open4 {base : Nat} {w : World} {P : Nat} {S : Nat → Prop} {d : Pl} (h : IsPl Q base w P S d) : ∃ gb cb vd, S = footP P (.slice (some ⟨gb, 0, none⟩) d.b.length cb) vd ∧ w.heap[P]? = some (.cells #[.slice (some ⟨gb, 0, none⟩) d.b.length cb, .bool d.ends, .int .i64 d.left, vd] 50 (0, 0)) := by
  obtain ⟨vb, vd, rfl, hP, hr, hp, ho⟩ := h
  obtain ⟨xs, gb, cb, rfl, _, _⟩ := hp.b
  exact ⟨gb, cb, vd, rfl, hr⟩
theorem Pl.ok.tick {d : Pl} (h : d.ok) (hl : -100000000 ≤ d.left) : d.tick.ok := by
  unfold Pl.tick
  split
  · exact ⟨h.pos, h.max, h.b4, by show -1000000000 ≤ d.left - 1; omega, by show d.left - 1 ≤ 1000000000; have := h.hi; omega⟩
  · exact h
theorem spent_is {base : Nat} (w : World) (P : Nat) {S : Nat → Prop} {d : Pl} (h : IsPl Q base w P S d) (hl : -100000000 ≤ d.left) :
    Calls Try.prog 89 #[.pointer (some ⟨P, 0, none⟩)] w fun e w' => e = .returned (.bool d.spent) ∧ IsPl Q base w' P S d.tick ∧ Kpt (fun b => b = P) w w' := by
  obtain ⟨gb, cb, vd, hS, hr⟩ := h.open4
  obtain ⟨q0, q1, q2, q3⟩ := four hr
  have ho := h.ok
  by_cases he : d.ends = true
  · have hs := h.setLeft (d.left - 1) ⟨by omega, by have := ho.hi; omega⟩
    have hr2 : (w.setCell ⟨P, 2, none⟩ (.int .i64 (d.left - 1))).heap[P]? = some (.cells #[.slice (some ⟨gb, 0, none⟩) d.b.length cb, .bool d.ends, .int .i64 (d.left - 1), vd] 50 (0, 0)) := heap_setCell_same _ _ 2 _ _ _ hr
    obtain ⟨x0, x1, x2, x3⟩ := four hr2
    have f2 := frow hr 2
    have h1 := ho.lo
    have h2 := ho.hi
    have HT : Hid (d.tick = { d with left := d.left - 1 }) := hid (by unfold Pl.tick; rw [if_pos he])
    have HP : Hid (d.spent = decide (d.left - 1 < 0)) := hid (by unfold Pl.spent; rw [he]; rfl)
    have HS := hid hs
    rw [he] at q1
    generalize d.left = x at *
    clear hs hr hr2 ho x0 x1 x3 q0 q3
    go_enter Try.func89, Try.ntmps89
    go_wp2
    go_ret
    rw [HT.out, HP.out]
    exact ⟨by simp, HS.out⟩
  · have he : d.ends = false := by simpa using he
    have HT : Hid (d.tick = d) := hid (by unfold Pl.tick; rw [he]; rfl)
    have HP : Hid (d.spent = false) := hid (by unfold Pl.spent; rw [he]; rfl)
    rw [he] at q1
    have H := hid h
    clear hr ho h
    go_enter Try.func89, Try.ntmps89
    go_wp2
    go_ret
    rw [HT.out, HP.out]
    exact ⟨rfl, H.out, Kpt.refl _ _⟩
def Pl.inB (d : Pl) (n : Int) : Bool := decide (0 ≤ n ∧ n < (d.b.length : Int))
def Pl.rdE (d : Pl) (n : Int) : Int := if d.spent = true then 4 else if d.inB n = true then 0 else 70
def Pl.rdB (d : Pl) (n : Int) : List UInt8 := if d.spent = true then [] else if d.inB n = true then d.b.getD n.toNat [] else []
theorem tick_b (d : Pl) : d.tick.b = d.b ∧ d.tick.ends = d.ends ∧ d.tick.did = d.did := by unfold Pl.tick; split <;> exact ⟨rfl, rfl, rfl⟩
theorem Read_is {base : Nat} (w : World) (P : Nat) {S : Nat → Prop} {d : Pl} (h : IsPl Q base w P S d) (hl : -100000000 ≤ d.left) (n : Int) (hn : -9223372036854775808 ≤ n ∧ n ≤ 9223372036854775807) :
    Calls Try.prog 138 #[.pointer (some ⟨P, 0, none⟩), .int .i64 n] w fun e w' => (∃ A c N, e = .returned (.tuple #[.slice A N c, .int .i64 (d.rdE n)]) ∧ N = (d.rdB n).length ∧ OwnB w.heap.size w' A c (d.rdB n)) ∧ IsPl Q base w' P S d.tick ∧ Kpt S w w' := by
  have SP := spent_is w P h hl
  have hin := h.inS
  unfold Pl.rdE Pl.rdB
  cases hs : d.spent with
  | true =>
    rw [hs] at SP
    clear h
    go_enter Try.func138, Try.ntmps138
    go_wp2_with fail
    refine SP.mono ?_
    rintro e w1 ⟨rfl, h1, k1⟩
    have H1 := hid h1; have K1 := hid (k1.mono (T := S) (by rintro b rfl; exact hin))
    clear SP h1 k1
    go_wp2
    refine bodyPost_ret (v := .tuple #[.slice none 0 0, .int .i64 4]) (by simp [results, Try.results138, go_sem]) rfl ⟨⟨none, 0, 0, rfl, rfl, OwnB.nil _ _⟩, H1.out, K1.out⟩
  | false =>
    simp only [Bool.false_eq_true, if_false]
    rw [hs] at SP
    have TB := hid (tick_b d).1
    cases hb : d.inB n with
    | true =>
      have hb' := of_decide_eq_true hb
      obtain ⟨m, rfl⟩ : ∃ m : Nat, n = (m : Int) := ⟨n.toNat, by omega⟩
      simp only [if_true, Int.toNat_natCast]
      have hm : m < d.b.length := by omega
      have HB4 := hid (h.ok.b4 _ (List.getElem_mem hm))
      have hgd : d.b.getD m [] = d.b[m] := by simp [hm]
      have HGD := hid hgd
      clear h hb hb' hgd
      go_enter Try.func138, Try.ntmps138
      go_wp2_with fail
      refine SP.mono ?_
      rintro e w1 ⟨rfl, h1, k1⟩
      have K1 := hid (k1.mono (T := S) (by rintro b rfl; exact hin))
      have H1 := hid h1
      obtain ⟨gb, cb, vd, hS, hr⟩ := h1.open4
      obtain ⟨vb', vd', _, _, hr', hp, _⟩ := h1
      rw [hr] at hr'
      simp only [Option.some.injEq, Obj.cells.injEq, plC, Array.mk.injEq, List.cons.injEq, and_true, true_and] at hr'
      obtain ⟨rfl, rfl⟩ := hr'
      obtain ⟨xs, gb', cb', e1, e2, e3⟩ := hp.b
      simp only [Value.slice.injEq, Option.some.injEq, Addr.mk.injEq, and_true, true_and] at e1
      obtain ⟨rfl, rfl⟩ := e1
      obtain ⟨q0, q1, q2, q3⟩ := four hr
      rw [TB.out] at q0 e3
      obtain ⟨v, hv, hdat⟩ := e3.at_ hm
      obtain ⟨b, off, c, rfl, hrd, _⟩ := hdat.rd
      have m0 := World.ownsRow.cellAt e2 m (by rw [TB.out]; omega)
      rw [hv, HB4.out] at m0
      have CB := CopyBytes_any w1 (some ⟨b, off, none⟩) c 4096 d.b[m] HB4.out.symm (by have := HB4.out; omega) hrd
      have hmI : (m : Int) < (d.b.length : Int) := by omega
      clear SP k1 hr hp e2 e3 hv hdat hrd q1 q2 q3
      go_wp2_with fail
      refine CB.mono ?_
      rintro e w2 ⟨A, c2, rfl, o2, b2⟩
      clear CB q0 m0
      have HZ := K1.out.size
      have HO := hid (o2.mono HZ); have HI := hid (H1.out.below b2); have HK := hid (K1.out.trans (.of_below b2))
      clear o2 b2 HZ
      go_wp2
      refine bodyPost_ret (v := .tuple #[.slice A 4096 c2, .int .i64 0]) (by simp [results, Try.results138, go_sem]) rfl ⟨⟨A, c2, 4096, rfl, ?_, ?_⟩, HI.out, HK.out⟩
      · rw [HGD.out, HB4.out]
      · rw [HGD.out]; exact HO.out
    | false =>
      simp only [Bool.false_eq_true, if_false]
      have hb' := of_decide_eq_false hb
      clear h hb
      go_enter Try.func138, Try.ntmps138
      go_wp2_with fail
      refine SP.mono ?_
      rintro e w1 ⟨rfl, h1, k1⟩
      have H1 := hid h1; have K1 := hid (k1.mono (T := S) (by rintro b rfl; exact hin))
      obtain ⟨gb, cb, vd, hS, hr⟩ := h1.open4
      obtain ⟨q0, q1, q2, q3⟩ := four hr
      rw [TB.out] at q0
      clear SP h1 k1 hr q1 q2 q3
      by_cases hn0 : n < 0
      · clear hb'
        go_wp2
        refine bodyPost_ret (v := .tuple #[.slice none 0 0, .int .i64 70]) (by simp [results, Try.results138, go_sem]) rfl ⟨⟨none, 0, 0, rfl, rfl, OwnB.nil _ _⟩, H1.out, K1.out⟩
      · have hn1 : (d.b.length : Int) ≤ n := by omega
        clear hb'
        go_wp2
        refine bodyPost_ret (v := .tuple #[.slice none 0 0, .int .i64 70]) (by simp [results, Try.results138, go_sem]) rfl ⟨⟨none, 0, 0, rfl, rfl, OwnB.nil _ _⟩, H1.out, K1.out⟩
end Go.Proofs.Ytahlhdhljjpeoaa

/- Plain: Write (printed by gen24a.py). -/
namespace Go.Proofs.Ytahlhdhljjpeoaa
open Go.RowKit
variable {Q : Nat → Prop}
set_option maxHeartbeats 1500000
set_option maxRecDepth 100000
set_option linter.unusedVariables false
set_option linter.unusedSimpArgs false

theorem info_IN : (Try.prog.info? 3).map (fun i => (i.zero, i.size, i.bytes)) = some (some (.int .i64 0), 1, 8) := by kernel_rfl
def Pl.wrE (d : Pl) (n : Int) (l : List UInt8) : Int := if d.spent = true then 4 else if d.inB n = true then if l.length = 4096 then 0 else 2 else 70
def Pl.wrD (d : Pl) (n : Int) (l : List UInt8) : Pl := if d.spent = true then d.tick else if d.inB n = true then if l.length = 4096 then d.tick.put n.toNat l else d.tick else d.tick
theorem TurnP.of {base : Nat} {w w' : World} {P : Nat} {S : Nat → Prop} {d' : Pl} (h : IsPl Q base w' P S d') (k : Kpt (fun b => b = P) w w') (hS : S P) : TurnP Q base w P S w' d' :=
  ⟨S, h, k.mono (by rintro b rfl; exact hS), fun b hb => .inl hb⟩
theorem below_dr (w : World) : Below w.heap.size w w.drew := ⟨rfl, rfl, rfl, Nat.le_refl _, fun _ _ => rfl⟩
theorem RdB.kptN {S : Nat → Prop} {w w' : World} {a : Option Addr} {l : List UInt8} (h : RdB w a l) (k : Kpt S w w') (hs : ∀ b, a.map (·.block) = some b → ¬ S b) : RdB w' a l := by
  intro hn
  obtain ⟨b, off, rfl, hc⟩ := h hn
  exact ⟨b, off, rfl, fun j u hu => k.cell (hc j u hu) (hs b rfl)⟩
theorem Write_yes {base : Nat} (w : World) (P : Nat) {S : Nat → Prop} {d : Pl} (h : IsPl Q base w P S d) (hl : -100000000 ≤ d.left) (hQ : ∀ b, w.heap.size ≤ b → Q b) (m : Nat) (hm : m < d.b.length) (a : Option Addr) (c : Nat) (l : List UInt8) (h4 : l.length = 4096) (hr : RdB w a l) (hd : d.did ≤ 1000000) (hs : d.spent = false) (hPa : ∀ b, a.map (·.block) = some b → b ≠ P) :
    Calls Try.prog 46 #[.pointer (some ⟨P, 0, none⟩), .int .i64 (m : Int), .slice a 4096 c] w fun e w' => e = .returned (.int .i64 0) ∧ TurnP Q base w P S w' (d.tick.put m l) := by
  have SP := spent_is w P h hl
  have hin := h.inS
  have TB := hid (tick_b d).1; have TD := hid (tick_b d).2.2; have HL4 := hid h4; have hmI : (m : Int) < (d.b.length : Int) := by omega
  have hsz := hid h.lt
  rw [hs] at SP
  have HR := hid hr; have HPA := hid hPa; have HQ := hid hQ; have HBASE := hid (h.blocks hin).1
  clear h hs hr h4 hPa hQ
  go_enter Try.func46, Try.ntmps46
  go_wp2_with fail
  refine SP.mono ?_
  rintro e w1 ⟨rfl, h1, k1⟩
  have hr1 : RdB w1 a l := HR.out.kptN k1 (fun b hb e => HPA.out b hb e)
  have H1 := hid h1; have K1 := hid k1
  obtain ⟨gb, cb, vd, rfl, hr⟩ := h1.open4
  have HR1 := hid hr
  obtain ⟨q0, q1, q2, q3⟩ := four hr
  rw [TB.out] at q0
  have CB := CopyBytes_any w1.drew a c 4096 l HL4.out.symm (by have := HL4.out; omega) (hr1.below (below_dr w1))
  have sX : w1.drew.cell? ⟨P, 0, none⟩ = some (.slice (some ⟨gb, 0, none⟩) d.b.length cb) := q0
  -- what the two stores make
  have FIN : ∀ (w2 : World) (g c2 : Nat), OwnB w1.drew.heap.size w2 (some ⟨g, 0, none⟩) c2 l → Below w1.drew.heap.size w1.drew w2 →
      w2.cell? ⟨P, 0, none⟩ = some (.slice (some ⟨gb, 0, none⟩) d.b.length cb) ∧ (∃ x, w2.cell? ⟨gb, m, none⟩ = some x) ∧ w2.frozen? ⟨gb, m, none⟩ = false ∧
      ((w2.setCell ⟨gb, m, none⟩ (.slice (some ⟨g, 0, none⟩) 4096 c2)).cell? ⟨P, 0, none⟩ = some (.slice (some ⟨gb, 0, none⟩) d.b.length cb) ∧
        IsPl Q base (w2.setCell ⟨gb, m, none⟩ (.slice (some ⟨g, 0, none⟩) 4096 c2)) P (footP P (.slice (some ⟨gb, 0, none⟩) d.b.length cb) vd) { d.tick with b := d.b.set m l } ∧ Kpt (fun b => b = P ∨ b = gb) w (w2.setCell ⟨gb, m, none⟩ (.slice (some ⟨g, 0, none⟩) 4096 c2)) ∧
        (w2.setCell ⟨gb, m, none⟩ (.slice (some ⟨g, 0, none⟩) 4096 c2)).heap[P]? = some (.cells #[.slice (some ⟨gb, 0, none⟩) d.b.length cb, .bool d.tick.ends, .int .i64 d.tick.left, vd] 50 (0, 0))) := by
    intro w2 g c2 o2 b2
    have bd : Below w1.heap.size w1 w2 := (below_dr w1).trans (b2.mono (Nat.le_refl _))
    have h2 := H1.out.below bd
    have hr2 := (bd.block P (heap_in HR1.out)).trans HR1.out
    obtain ⟨y0, _, _, _⟩ := four hr2
    have hsw : w.heap.size ≤ w1.heap.size := K1.out.size
    have hg := o2.lt
    have hdat : Dat Q w2 (.slice (some ⟨g, 0, none⟩) 4096 c2) l := by
      have := Dat.own o2 (HQ.out g (by have e : w1.drew.heap.size = w1.heap.size := rfl; omega))
      rw [HL4.out] at this
      exact this
    have tb := TB.out
    obtain ⟨s1, s2, s3⟩ := IsPl.setB h2 hr2 m (by rw [tb]; exact hm) hdat HL4.out
    obtain ⟨vb', vd', _, _, hr', hp, _⟩ := h2
    rw [hr2] at hr'
    simp only [Option.some.injEq, Obj.cells.injEq, plC, Array.mk.injEq, List.cons.injEq, and_true, true_and] at hr'
    obtain ⟨rfl, rfl⟩ := hr'
    obtain ⟨xs, gb', cb', e1, e2, e3⟩ := hp.b
    simp only [Value.slice.injEq, Option.some.injEq, Addr.mk.injEq, and_true, true_and] at e1
    obtain ⟨rfl, rfl⟩ := e1
    obtain ⟨v, hv, _⟩ := e3.at_ (show m < d.tick.b.length by rw [tb]; exact hm)
    have m0 := World.ownsRow.cellAt e2 m (by rw [tb]; omega)
    rw [hv] at m0
    have f0 := World.ownsRow.frozenAt e2 m
    have s3' := s3
    obtain ⟨z0, _, _, _⟩ := four s3
    rw [tb] at y0 z0 s1 s3'
    refine ⟨y0, ⟨v, m0⟩, f0, z0, s1, ?_, s3'⟩
    exact ((K1.out.mono fun b hb => .inl hb).trans (Kpt.of_below bd)).trans (s2.mono fun b hb => .inr hb)
  have FIN := hid FIN
  clear SP k1 hr q1 q2 q3 h1 hr1
  go_wp2_with fail
  refine wp_region_held_drew (S := fun W1 => W1.cell? ⟨P, 0, none⟩ = some (.slice (some ⟨gb, 0, none⟩) d.b.length cb)) (by kernel_rfl) (by exact sX) (fun hHeld => ?_)
  refine wpAnyH_take (i := 0) (oi := ?o0z1) (v := ?v0z1) ?hi0z1 (by kernel_rfl) (by kernel_rfl) ?hr0z1 ?hQ0z1 ?hy0z1 hHeld ?r0z1
  case hi0z1 => (simp only [List.getElem?_toArray, List.getElem?_cons_zero, List.getElem?_cons_succ]; rfl)
  case hr0z1 => kernel_rfl
  case hQ0z1 => exact fun _ _ _ h => h
  case hy0z1 => (refine Or.inl ⟨by rfl, ?_⟩; intro w hSw; (try dsimp only at hSw); go_simp; try with_reducible rfl)
  try simp only [Act.put, List.setIfInBounds_toArray, List.set_cons_zero, List.set_cons_succ]
  refine wpAnyH_take (i := 1) (oi := ?o1z1) (v := ?v1z1) ?hi1z1 (by kernel_rfl) (by kernel_rfl) ?hr1z1 ?hQ1z1 ?hy1z1 hHeld ?r1z1
  case hi1z1 => (simp only [List.getElem?_toArray, List.getElem?_cons_zero, List.getElem?_cons_succ]; rfl)
  case hr1z1 => kernel_rfl
  case hQ1z1 => exact fun _ _ _ h => h
  case hy1z1 => (refine Or.inl ⟨by rfl, ?_⟩; intro w hSw; (try dsimp only at hSw); go_simp; try with_reducible rfl)
  try simp only [Act.put, List.setIfInBounds_toArray, List.set_cons_zero, List.set_cons_succ]
  refine wpAnyH_take (i := 2) (oi := ?o2z1) (v := ?v2z1) ?hi2z1 (by kernel_rfl) (by kernel_rfl) ?hr2z1 ?hQ2z1 ?hy2z1 hHeld ?r2z1
  case hi2z1 => (simp only [List.getElem?_toArray, List.getElem?_cons_zero, List.getElem?_cons_succ]; rfl)
  case hr2z1 => kernel_rfl
  case hQ2z1 => exact fun _ _ _ h => h
  case hy2z1 => (refine Or.inl ⟨by rfl, ?_⟩; intro w hSw; (try dsimp only at hSw); go_simp; try with_reducible rfl)
  try simp only [Act.put, List.setIfInBounds_toArray, List.set_cons_zero, List.set_cons_succ]
  refine wpAnyH_take (i := 3) (oi := ?o3z1) (v := ?v3z1) ?hi3z1 (by kernel_rfl) (by kernel_rfl) ?hr3z1 ?hQ3z1 ?hy3z1 hHeld ?r3z1
  case hi3z1 => (simp only [List.getElem?_toArray, List.getElem?_cons_zero, List.getElem?_cons_succ]; rfl)
  case hr3z1 => kernel_rfl
  case hQ3z1 => exact fun _ _ _ h => h
  case hy3z1 => (refine Or.inl ⟨by rfl, ?_⟩; intro w hSw; (try dsimp only at hSw); go_simp; try with_reducible rfl)
  try simp only [Act.put, List.setIfInBounds_toArray, List.set_cons_zero, List.set_cons_succ]
  refine wpAnyH_take (i := 4) (oi := ?o4z1) (v := ?v4z1) ?hi4z1 (by kernel_rfl) (by kernel_rfl) ?hr4z1 ?hQ4z1 ?hy4z1 hHeld ?r4z1
  case hi4z1 => (simp only [List.getElem?_toArray, List.getElem?_cons_zero, List.getElem?_cons_succ]; rfl)
  case hr4z1 => kernel_rfl
  case hQ4z1 => exact fun _ _ _ h => h
  case hy4z1 => (refine Or.inl ⟨by rfl, ?_⟩; intro w hSw; (try dsimp only at hSw); go_simp; try with_reducible rfl)
  try simp only [Act.put, List.setIfInBounds_toArray, List.set_cons_zero, List.set_cons_succ]
  refine wpAnyH_take (i := 5) (oi := ?o5z1) (v := ?v5z1) ?hi5z1 (by kernel_rfl) (by kernel_rfl) ?hr5z1 ?hQ5z1 ?hy5z1 hHeld ?r5z1
  case hi5z1 => (simp only [List.getElem?_toArray, List.getElem?_cons_zero, List.getElem?_cons_succ]; rfl)
  case hr5z1 => kernel_rfl
  case hQ5z1 => exact fun _ _ _ h => h
  case hy5z1 => (refine Or.inl ⟨by rfl, ?_⟩; intro w hSw; (try dsimp only at hSw); go_simp; try with_reducible rfl)
  try simp only [Act.put, List.setIfInBounds_toArray, List.set_cons_zero, List.set_cons_succ]
  refine wpAnyH_ready (rs := [6]) (by kernel_rfl) (by simp) (AllReadyH.cons (o := ?o6z1) ?hi6z1 (fun K hK => ?r6z1) AllReadyH.nil)
  case hi6z1 => (simp only [List.getElem?_toArray, List.getElem?_cons_zero, List.getElem?_cons_succ]; rfl)
  go_simp
  refine CB.mono ?_
  rintro e w2 ⟨A, c2, rfl, o2, b2⟩
  obtain ⟨g, rfl, hg1, hg2⟩ := own_adr o2 (by intro e; have := HL4.out; rw [e] at this; simp at this)
  obtain ⟨q02, ⟨v02, m02⟩, f02, STEP⟩ := FIN.out w2 g c2 o2 b2
  have STEP := hid STEP
  refine hK.out _ _ (by exact q02) (fun hHeld => ?_)
  clear hK K
  try simp only [Act.put, List.setIfInBounds_toArray, List.set_cons_zero, List.set_cons_succ]
  refine wpAnyH_take (i := 7) (oi := ?o7z1) (v := ?v7z1) ?hi7z1 (by kernel_rfl) (by kernel_rfl) ?hr7z1 ?hQ7z1 ?hy7z1 hHeld ?r7z1
  case hi7z1 => (simp only [List.getElem?_toArray, List.getElem?_cons_zero, List.getElem?_cons_succ]; rfl)
  case hr7z1 => kernel_rfl
  case hQ7z1 => exact fun _ _ _ h => h
  case hy7z1 => (refine Or.inl ⟨by rfl, ?_⟩; intro w hSw; (try dsimp only at hSw); go_simp; try with_reducible rfl)
  try simp only [Act.put, List.setIfInBounds_toArray, List.set_cons_zero, List.set_cons_succ]
  refine wpAnyH_ready (rs := [8]) (by kernel_rfl) (by simp) (AllReadyH.cons (o := ?o8z1) ?hi8z1 (fun K hK => ?r8z1) AllReadyH.nil)
  case hi8z1 => (simp only [List.getElem?_toArray, List.getElem?_cons_zero, List.getElem?_cons_succ]; rfl)
  go_simp
  refine hK.out _ _ (by exact STEP.out.1) (fun hHeld => ?_)
  clear hK K
  try simp only [Act.put, List.setIfInBounds_toArray, List.set_cons_zero, List.set_cons_succ]
  refine wpAnyH_done (by kernel_rfl) ?_ _
  obtain ⟨_, s1, k3, r3⟩ := STEP.out
  have s1' := s1
  obtain ⟨vb', vd', _, _, hr', hp, _⟩ := s1'
  rw [r3] at hr'
  simp only [Option.some.injEq, Obj.cells.injEq, plC, Array.mk.injEq, List.cons.injEq, and_true, true_and] at hr'
  obtain ⟨rfl, rfl⟩ := hr'
  obtain ⟨xd, A3, c3, rfl, e3⟩ := hp.d
  have e3 : (w2.setCell ⟨gb, m, none⟩ (.slice (some ⟨g, 0, none⟩) 4096 c2)).ownsRow base 3 1 (.slice A3 d.tick.did c3) d.tick.did xd := e3
  have td := TD.out
  have q3 := (four r3).2.2.2
  have hk3 : base ≤ (w2.setCell ⟨gb, m, none⟩ (.slice (some ⟨g, 0, none⟩) 4096 c2)).heap.size := by have := k3.size; have := HBASE.out; have := hsz.out; omega
  clear STEP hp q02 m02 f02 sX o2 b2 CB q0
  generalize (w2.setCell ⟨gb, m, none⟩ (.slice (some ⟨g, 0, none⟩) 4096 c2)) = w3 at *
  have S1 := hid s1; have K3 := hid k3; have R3 := hid r3
  have ba : Below w3.heap.size w3 (w3.alloc (.cells #[.int .i64 (m : Int)] 3)) := (Below.refl _ _).alloc (Nat.le_refl _) _
  have e4 := own_below e3 ba
  have E4 := hid e4
  have hk4 : base ≤ (w3.alloc (.cells #[.int .i64 (m : Int)] 3)).heap.size := Nat.le_trans hk3 ba.size
  have BA := hid ba
  rw [td] at *
  clear s1 k3 r3 e3 e4 ba
  go_wp2_with (with_reducible refine app_own rfl (.tmp 35) (.tmp 37) 36 3 (.int .i64 0) 1 8 rfl Try.underlying36 info_IN rfl (by decide) (by decide) base (.slice A3 d.did c3) d.did xd rfl E4.out (some ⟨w3.heap.size, 0, none⟩) 1 1 [.int .i64 (m : Int)] rfl rfl RdV.one (by simp [Value.oneCell']) (by omega) (w3.alloc (.cells #[.int .i64 (m : Int)] 3)) (Below.refl _ _) hk4 ?_
               intro A5 c5 w5 h5 h5b h5c h5d
               have K5 := Kpt.of_grown (S := fun b => (Value.slice A3 d.did c3).ownBlock = some b) h5c (fun j e => e)
               have r4 := (BA.out.block P (heap_in R3.out)).trans R3.out
               have r5 := (K5.block P (heap_in r4) (fun e => own_noT E4.out r4 (by decide) P e rfl)).trans r4
               have x3 := (four r5).2.2.2
               have f3 := frow r5 3)
  go_wp2
  go_ret
  refine ⟨rfl, ?_⟩
  have t5 := IsPl.setD (S1.out.below BA.out) r4 h5 K5 (fun b hb => by
    rcases h5d with h | h
    · exact .inl (h.symm.trans hb)
    · rw [hb] at h
      exact .inr (Nat.le_of_eq (Option.some.inj h).symm))
  have t6 := TurnP.trans ((K3.out.mono (T := footP P (.slice (some ⟨gb, 0, none⟩) d.b.length cb) (.slice A3 d.did c3)) (fun b hb => hb.elim .inl (fun h => .inr (.inl (by rw [h]; rfl))))).trans (Kpt.of_below BA.out)) (fun b hb => .inl hb) t5
  have e : d.tick.put m l = { b := d.b.set m l, ends := d.tick.ends, left := d.tick.left, did := d.did + 1 } := by
    unfold Pl.put
    rw [TB.out, TD.out]
  rw [e, TB.out, TD.out]
  exact t6
theorem Write_no {base : Nat} (w : World) (P : Nat) {S : Nat → Prop} {d : Pl} (h : IsPl Q base w P S d) (hl : -100000000 ≤ d.left) (n : Int) (a : Option Addr) (c N : Nat) (hs : d.spent = true) :
    Calls Try.prog 46 #[.pointer (some ⟨P, 0, none⟩), .int .i64 n, .slice a N c] w fun e w' => e = .returned (.int .i64 4) ∧ TurnP Q base w P S w' d.tick := by
  have SP := spent_is w P h hl
  have hin := h.inS
  rw [hs] at SP
  clear h
  go_enter Try.func46, Try.ntmps46
  go_wp2_with fail
  refine SP.mono ?_
  rintro e w1 ⟨rfl, h1, k1⟩
  clear SP
  go_wp2
  go_ret
  exact ⟨rfl, TurnP.of h1 k1 hin⟩
end Go.Proofs.Ytahlhdhljjpeoaa

/- Package layout, and the document's: the walks. -/
namespace Go.Proofs.Ytahlhdhljjpeoaa
open Go.RowKit
set_option maxHeartbeats 800000
set_option linter.unusedVariables false
set_option linter.unusedSimpArgs false

/-- A layout. -/
structure Lay where
  bl : Int
  lg : Int
  lb : Int
  bi : Int
  ino : Int
  ib : Int
  da : Int
deriving DecidableEq
def Lay.val (l : Lay) : Value := .agg #[.int .i64 l.bl, .int .i64 l.lg, .int .i64 l.lb, .int .i64 l.bi, .int .i64 l.ino, .int .i64 l.ib, .int .i64 l.da]
/-- Blocks of the ring. -/
def ringL (n : Int) : Int := max 16 (n / 8)
theorem ringL_bd {n : Int} (h1 : 64 ≤ n) (h2 : n ≤ 512) : 16 ≤ ringL n ∧ ringL n ≤ 64 ∧ (ringL n = 16 ∨ ringL n = n / 8) := by unfold ringL; omega
def okN (n : Int) : Bool := decide (64 ≤ n ∧ n ≤ 512)
def ofL (n : Int) : Lay := if okN n then ⟨n, 2, ringL n, 2 + ringL n, 2 + ringL n + 1, n / 16, 2 + ringL n + 1 + n / 16⟩ else ⟨0, 0, 0, 0, 0, 0, 0⟩
def errN (n : Int) : Int := if okN n then 0 else 2

theorem Of_any (w : World) (n : Int) :
    Calls Try.prog 97 #[.int .i64 n] w fun e w' => e = .returned (.tuple #[(ofL n).val, .int .i64 (errN n)]) ∧ Below w.heap.size w w' := by
  by_cases h1 : n < 64
  · have HH := hid (show ofL n = ⟨0, 0, 0, 0, 0, 0, 0⟩ ∧ errN n = 2 by simp [ofL, errN, okN]; omega)
    go_enter Try.func97, Try.ntmps97
    go_wp2
    rw [HH.out.1, HH.out.2]
    exact bodyPost_ret (v := .tuple #[(⟨0, 0, 0, 0, 0, 0, 0⟩ : Lay).val, .int .i64 2]) (by simp [results, Try.results97, go_sem, Lay.val]) rfl ⟨rfl, (Below.refl _ _).alloc (Nat.le_refl _) _⟩
  · by_cases h2 : 512 < n
    · have HH := hid (show ofL n = ⟨0, 0, 0, 0, 0, 0, 0⟩ ∧ errN n = 2 by simp [ofL, errN, okN]; omega)
      go_enter Try.func97, Try.ntmps97
      go_wp2
      rw [HH.out.1, HH.out.2]
      exact bodyPost_ret (v := .tuple #[(⟨0, 0, 0, 0, 0, 0, 0⟩ : Lay).val, .int .i64 2]) (by simp [results, Try.results97, go_sem, Lay.val]) rfl ⟨rfl, (Below.refl _ _).alloc (Nat.le_refl _) _⟩
    · have h64 : 64 ≤ n := by omega
      have h512 : n ≤ 512 := by omega
      have HH := hid (show ofL n = ⟨n, 2, ringL n, 2 + ringL n, 2 + ringL n + 1, n / 16, 2 + ringL n + 1 + n / 16⟩ ∧ errN n = 0 by simp [ofL, errN, okN, h64, h512])
      go_enter Try.func97, Try.ntmps97
      go_wp2
      all_goals
        first
        | (have hr : ringL n = 16 := by unfold ringL; omega
           rw [HH.out.1, HH.out.2, hr]
           exact bodyPost_ret (v := .tuple #[(⟨n, 2, 16, 2 + 16, 2 + 16 + 1, n / 16, 2 + 16 + 1 + n / 16⟩ : Lay).val, .int .i64 0]) (by simp [results, Try.results97, go_sem, Lay.val]) rfl ⟨rfl, ((Below.refl _ _).alloc (Nat.le_refl _) _).alloc (by simp) _⟩)
        | (have hr : ringL n = n / 8 := by unfold ringL; omega
           rw [HH.out.1, HH.out.2, hr]
           exact bodyPost_ret (v := .tuple #[(⟨n, 2, n / 8, 2 + n / 8, 2 + n / 8 + 1, n / 16, 2 + n / 8 + 1 + n / 16⟩ : Lay).val, .int .i64 0]) (by simp [results, Try.results97, go_sem, Lay.val]) rfl ⟨rfl, ((Below.refl _ _).alloc (Nat.le_refl _) _).alloc (by simp) _⟩)
theorem refOf_any (w : World) (n : Int) :
    Calls Try.prog 55 #[.int .i64 n] w fun e w' => e = .returned (.tuple #[(ofL n).val, .int .i64 (errN n)]) ∧ Below w.heap.size w w' := by
  by_cases h1 : n < 64
  · have HH := hid (show ofL n = ⟨0, 0, 0, 0, 0, 0, 0⟩ ∧ errN n = 2 by simp [ofL, errN, okN]; omega)
    go_enter Try.func55, Try.ntmps55
    go_wp2
    rw [HH.out.1, HH.out.2]
    exact bodyPost_ret (v := .tuple #[(⟨0, 0, 0, 0, 0, 0, 0⟩ : Lay).val, .int .i64 2]) (by simp [results, Try.results55, go_sem, Lay.val]) rfl ⟨rfl, (Below.refl _ _).alloc (Nat.le_refl _) _⟩
  · by_cases h2 : 512 < n
    · have HH := hid (show ofL n = ⟨0, 0, 0, 0, 0, 0, 0⟩ ∧ errN n = 2 by simp [ofL, errN, okN]; omega)
      go_enter Try.func55, Try.ntmps55
      go_wp2
      rw [HH.out.1, HH.out.2]
      exact bodyPost_ret (v := .tuple #[(⟨0, 0, 0, 0, 0, 0, 0⟩ : Lay).val, .int .i64 2]) (by simp [results, Try.results55, go_sem, Lay.val]) rfl ⟨rfl, (Below.refl _ _).alloc (Nat.le_refl _) _⟩
    · have h64 : 64 ≤ n := by omega
      have h512 : n ≤ 512 := by omega
      have HH := hid (show ofL n = ⟨n, 2, ringL n, 2 + ringL n, 2 + ringL n + 1, n / 16, 2 + ringL n + 1 + n / 16⟩ ∧ errN n = 0 by simp [ofL, errN, okN, h64, h512])
      go_enter Try.func55, Try.ntmps55
      go_wp2
      all_goals
        first
        | (have hr : ringL n = 16 := by unfold ringL; omega
           rw [HH.out.1, HH.out.2, hr]
           exact bodyPost_ret (v := .tuple #[(⟨n, 2, 16, 2 + 16, 2 + 16 + 1, n / 16, 2 + 16 + 1 + n / 16⟩ : Lay).val, .int .i64 0]) (by simp [results, Try.results55, go_sem, Lay.val]) rfl ⟨rfl, ((Below.refl _ _).alloc (Nat.le_refl _) _).alloc (by simp) _⟩)
        | (have hr : ringL n = n / 8 := by unfold ringL; omega
           rw [HH.out.1, HH.out.2, hr]
           exact bodyPost_ret (v := .tuple #[(⟨n, 2, n / 8, 2 + n / 8, 2 + n / 8 + 1, n / 16, 2 + n / 8 + 1 + n / 16⟩ : Lay).val, .int .i64 0]) (by simp [results, Try.results55, go_sem, Lay.val]) rfl ⟨rfl, ((Below.refl _ _).alloc (Nat.le_refl _) _).alloc (by simp) _⟩)
def rightL (l : Lay) : Bool := okN l.bl && decide (ofL l.bl = l)
/-- A cell of a block that is known, behind what was made since. -/
theorem cell_kept' {w : World} {g : Nat} {cs : Array Value} {t : TypeId} (h : w.heap[g]? = some (.cells cs t (0, 0))) (j : Nat) (v : Value) (hj : cs[j]? = some v) (o : Obj) : (w.alloc o).cell? ⟨g, j, none⟩ = some v := by
  have hlt : g < w.heap.size := by
    rcases Nat.lt_or_ge g w.heap.size with h' | h'
    · exact h'
    · rw [Array.getElem?_eq_none h'] at h; cases h
  rw [cell_of_row _ _ _ cs t (0, 0) ((heap_alloc_old w o hlt).trans h)]
  exact hj
theorem right_any (w : World) (l : Lay) :
    Calls Try.prog 102 #[l.val] w fun e w' => e = .returned (.bool (rightL l)) ∧ Below w.heap.size w w' := by
  have hof := fun w => Of_any w l.bl
  have hE := hid (show errN l.bl = if okN l.bl then 0 else 2 from rfl)
  obtain ⟨ok, hok⟩ : ∃ ok, ok = okN l.bl := ⟨_, rfl⟩
  have hR := hid (show rightL l = (okN l.bl && decide (ofL l.bl = l)) from rfl)
  rw [← hok] at hE hR
  obtain ⟨e, he⟩ : ∃ e, e = errN l.bl := ⟨_, rfl⟩
  obtain ⟨o, ho⟩ : ∃ o, o = ofL l.bl := ⟨_, rfl⟩
  rw [← ho] at hR hof
  rw [← he] at hE
  rw [← he] at hof
  clear he hok ho
  obtain ⟨a, b, c, d, f, g, k⟩ := l
  obtain ⟨a', b', c', d', f', g', k'⟩ := o
  simp only [Lay.val] at hof ⊢
  cases ok with
  | false =>
    have he := hE.out
    simp only [Bool.false_eq_true, if_false] at he
    subst he
    go_enter Try.func102, Try.ntmps102
    go_wp2_with fail
    refine (hof _).mono ?_
    rintro e w1 ⟨rfl, b1⟩
    have bw := ((Below.refl _ w).alloc (Nat.le_refl _) _).trans (b1.mono (by simp))
    clear b1
    go_wp2
    go_ret
    exact ⟨by rw [hR.out]; rfl, bw.alloc bw.size _⟩
  | true =>
    have he := hE.out
    simp only [if_true] at he
    subst he
    go_enter Try.func102, Try.ntmps102
    go_wp2_with fail
    refine (hof _).mono ?_
    rintro e w1 ⟨rfl, b1⟩
    have hg := (b1.block w.heap.size (by simp)).trans (heap_alloc_new w _)
    have c0 := cell_kept' hg 0 _ rfl
    have c1 := cell_kept' hg 1 _ rfl
    have c2 := cell_kept' hg 2 _ rfl
    have c3 := cell_kept' hg 3 _ rfl
    have c4 := cell_kept' hg 4 _ rfl
    have c5 := cell_kept' hg 5 _ rfl
    have c6 := cell_kept' hg 6 _ rfl
    have bw := ((Below.refl _ w).alloc (Nat.le_refl _) _).trans (b1.mono (by simp))
    clear hg b1
    go_wp2
    all_goals
      go_ret
      refine ⟨?_, bw.alloc bw.size _⟩
      rw [hR.out]
      show Ending.returned (Value.bool _) = Ending.returned (Value.bool _)
      congr 2
      rw [Bool.true_and]
      first
      | (refine (decide_eq_true ?_).symm; rw [Lay.mk.injEq]; omega)
      | (refine (decide_eq_false ?_).symm; rw [Lay.mk.injEq]; omega)
theorem layRefRight_any (w : World) (l : Lay) :
    Calls Try.prog 34 #[l.val] w fun e w' => e = .returned (.bool (rightL l)) ∧ Below w.heap.size w w' := by
  have hof := fun w => refOf_any w l.bl
  have hE := hid (show errN l.bl = if okN l.bl then 0 else 2 from rfl)
  obtain ⟨ok, hok⟩ : ∃ ok, ok = okN l.bl := ⟨_, rfl⟩
  have hR := hid (show rightL l = (okN l.bl && decide (ofL l.bl = l)) from rfl)
  rw [← hok] at hE hR
  obtain ⟨e, he⟩ : ∃ e, e = errN l.bl := ⟨_, rfl⟩
  obtain ⟨o, ho⟩ : ∃ o, o = ofL l.bl := ⟨_, rfl⟩
  rw [← ho] at hR hof
  rw [← he] at hE
  rw [← he] at hof
  clear he hok ho
  obtain ⟨a, b, c, d, f, g, k⟩ := l
  obtain ⟨a', b', c', d', f', g', k'⟩ := o
  simp only [Lay.val] at hof ⊢
  cases ok with
  | false =>
    have he := hE.out
    simp only [Bool.false_eq_true, if_false] at he
    subst he
    go_enter Try.func34, Try.ntmps34
    go_wp2_with fail
    refine (hof _).mono ?_
    rintro e w1 ⟨rfl, b1⟩
    have bw := ((Below.refl _ w).alloc (Nat.le_refl _) _).trans (b1.mono (by simp))
    clear b1
    go_wp2
    go_ret
    exact ⟨by rw [hR.out]; rfl, bw.alloc bw.size _⟩
  | true =>
    have he := hE.out
    simp only [if_true] at he
    subst he
    go_enter Try.func34, Try.ntmps34
    go_wp2_with fail
    refine (hof _).mono ?_
    rintro e w1 ⟨rfl, b1⟩
    have hg := (b1.block w.heap.size (by simp)).trans (heap_alloc_new w _)
    have c0 := cell_kept' hg 0 _ rfl
    have c1 := cell_kept' hg 1 _ rfl
    have c2 := cell_kept' hg 2 _ rfl
    have c3 := cell_kept' hg 3 _ rfl
    have c4 := cell_kept' hg 4 _ rfl
    have c5 := cell_kept' hg 5 _ rfl
    have c6 := cell_kept' hg 6 _ rfl
    have bw := ((Below.refl _ w).alloc (Nat.le_refl _) _).trans (b1.mono (by simp))
    clear hg b1
    go_wp2
    all_goals
      go_ret
      refine ⟨?_, bw.alloc bw.size _⟩
      rw [hR.out]
      show Ending.returned (Value.bool _) = Ending.returned (Value.bool _)
      congr 2
      rw [Bool.true_and]
      first
      | (refine (decide_eq_true ?_).symm; rw [Lay.mk.injEq]; omega)
      | (refine (decide_eq_false ?_).symm; rw [Lay.mk.injEq]; omega)
end Go.Proofs.Ytahlhdhljjpeoaa
