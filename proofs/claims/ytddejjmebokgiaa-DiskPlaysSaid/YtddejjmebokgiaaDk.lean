/- Disks in memory: what is said of them, and what keeps it. -/
import Derived.Test.YtddejjmebokgiaaApart2
import Derived.Test.YtddejjmebokgiaaZeros
namespace Go.Proofs.Ytddejjmebokgiaa
open Go.RowKit
variable {Q : Nat → Prop}
set_option maxHeartbeats 3200000
set_option linter.unusedVariables false
set_option linter.unusedSimpArgs false

/-- A block of bytes. -/
def U8 (w : World) (b : Nat) : Prop := ∃ cs : Array Value, w.heap[b]? = some (.cells cs 5 (0, 0))
/-- A slice of these bytes, in a block of bytes. -/
def Dat (Q : Nat → Prop) (w : World) (v : Value) (l : List UInt8) : Prop :=
  ∃ (b off c : Nat) (cs : Array Value), v = .slice (some ⟨b, off, none⟩) l.length c ∧ w.heap[b]? = some (.cells cs 5 (0, 0)) ∧ (∀ j u, (B8s l)[j]? = some u → cs[off + j]? = some u) ∧ l.length ≤ c ∧ c ≤ 9223372036854775807 ∧ Q b
theorem Dat.rd {w : World} {v : Value} {l : List UInt8} (h : Dat Q w v l) : ∃ b off c, v = .slice (some ⟨b, off, none⟩) l.length c ∧ RdB w (some ⟨b, off, none⟩) l ∧ U8 w b := by
  obtain ⟨b, off, c, cs, rfl, hh, hc, _⟩ := h
  refine ⟨b, off, c, rfl, fun hn => ⟨b, off, rfl, fun j u hu => ?_⟩, cs, hh⟩
  rw [cell_of_row _ _ _ _ _ _ hh]
  exact hc j u hu
theorem Dat.kpt {S : Nat → Prop} {w w' : World} {v : Value} {l : List UInt8} (h : Dat Q w v l) (k : Kpt S w w') (hs : ∀ b, S b → ¬ U8 w b) : Dat Q w' v l := by
  obtain ⟨b, off, c, cs, rfl, hh, hc⟩ := h
  exact ⟨b, off, c, cs, rfl, (k.block b (heap_in hh) (fun x => hs b x ⟨cs, hh⟩)).trans hh, hc⟩
theorem Dat.below {w w' : World} {v : Value} {l : List UInt8} (h : Dat Q w v l) (k : Below w.heap.size w w') : Dat Q w' v l := h.kpt (S := fun _ => False) (.of_below k) (fun _ h => h.elim)
theorem Dat.cap {w : World} {A : Option Addr} {n c : Nat} {l : List UInt8} (h : Dat Q w (.slice A n c) l) : l.length ≤ c ∧ c ≤ 9223372036854775807 := by
  obtain ⟨b, off, c', cs, e, hh, hc, h1, h2, _⟩ := h
  simp only [Value.slice.injEq] at e
  obtain ⟨_, _, rfl⟩ := e
  exact ⟨h1, h2⟩
theorem U8.kpt {S : Nat → Prop} {w w' : World} {b : Nat} (h : U8 w b) (k : Kpt S w w') (hs : ∀ b, S b → ¬ U8 w b) : U8 w' b := by
  obtain ⟨cs, hh⟩ := h
  exact ⟨cs, (k.block b (heap_in hh) (fun x => hs b x ⟨cs, hh⟩)).trans hh⟩
/-- A row of bytes of the call's own is such a slice. -/
theorem Dat.own {base g c : Nat} {w : World} {l : List UInt8} (h : OwnB base w (some ⟨g, 0, none⟩) c l) (hq : Q g) : Dat Q w (.slice (some ⟨g, 0, none⟩) l.length c) l := by
  rcases h.2 with ⟨hv, _⟩ | ⟨g', cap, cur, hv, hb, hg, hn, hm, hs, ht⟩
  · simp at hv
  · simp only [Value.slice.injEq, Option.some.injEq, Addr.mk.injEq, and_true, true_and] at hv
    obtain ⟨rfl, rfl⟩ := hv
    refine ⟨g, 0, c, cur, rfl, hg, fun j u hu => ?_, h.cap.1, h.cap.2, hq⟩
    rw [Nat.zero_add]
    have hj : j < (B8s l).length := (List.getElem?_eq_some_iff.1 hu).1
    rw [← ht, List.getElem?_take] at hu
    split at hu
    · simpa using hu
    · cases hu
theorem OwnB.u8 {base g c : Nat} {w : World} {l : List UInt8} (h : OwnB base w (some ⟨g, 0, none⟩) c l) : U8 w g := by
  obtain ⟨b, off, c', h1, h2, h3⟩ := (Dat.own (Q := fun _ => True) h trivial).rd
  simp only [Value.slice.injEq, Option.some.injEq, Addr.mk.injEq, and_true, true_and] at h1
  obtain ⟨⟨rfl, rfl⟩, rfl⟩ := h1
  exact h3
theorem own_adr {base c : Nat} {w : World} {a : Option Addr} {l : List UInt8} (h : OwnB base w a c l) (hn : l ≠ []) : ∃ g, a = some ⟨g, 0, none⟩ ∧ base ≤ g ∧ g < w.heap.size := by
  obtain ⟨g, rfl, hb, _⟩ := h.at_ hn
  exact ⟨g, rfl, hb, h.lt.2⟩
theorem OwnB.kpt' {S : Nat → Prop} {base g c : Nat} {w w' : World} {l : List UInt8} (h : OwnB base w (some ⟨g, 0, none⟩) c l) (k : Kpt S w w') (hs : ∀ b, S b → ¬ U8 w b) : OwnB base w' (some ⟨g, 0, none⟩) c l :=
  h.kpt k (fun x => hs g x h.u8)
/-- Lists of such slices. -/
def Dats (Q : Nat → Prop) (w : World) (vs : List Value) (ls : List (List UInt8)) : Prop := vs.length = ls.length ∧ ∀ (i : Nat) (v : Value) (l : List UInt8), vs[i]? = some v → ls[i]? = some l → Dat Q w v l
theorem Dats.kpt {S : Nat → Prop} {w w' : World} {vs : List Value} {ls : List (List UInt8)} (h : Dats Q w vs ls) (k : Kpt S w w') (hs : ∀ b, S b → ¬ U8 w b) : Dats Q w' vs ls :=
  ⟨h.1, fun i v l h1 h2 => (h.2 i v l h1 h2).kpt k hs⟩
theorem Dats.below {w w' : World} {vs : List Value} {ls : List (List UInt8)} (h : Dats Q w vs ls) (k : Below w.heap.size w w') : Dats Q w' vs ls := ⟨h.1, fun i v l h1 h2 => (h.2 i v l h1 h2).below k⟩
theorem Dats.nil (w : World) : Dats Q w [] [] := ⟨rfl, fun i v l h => by simp at h⟩
theorem Dats.at_ {w : World} {vs : List Value} {ls : List (List UInt8)} (h : Dats Q w vs ls) {i : Nat} (hi : i < ls.length) : ∃ v, vs[i]? = some v ∧ Dat Q w v ls[i] := by
  have h1 : i < vs.length := by rw [h.1]; exact hi
  exact ⟨vs[i], List.getElem?_eq_getElem h1, h.2 i _ _ (List.getElem?_eq_getElem h1) (List.getElem?_eq_getElem hi)⟩
theorem Dats.snoc {w : World} {vs : List Value} {ls : List (List UInt8)} (h : Dats Q w vs ls) {v : Value} {l : List UInt8} (hd : Dat Q w v l) : Dats Q w (vs ++ [v]) (ls ++ [l]) := by
  refine ⟨by simp [h.1], fun i u m h1 h2 => ?_⟩
  have e := h.1
  by_cases hi : i < vs.length
  · rw [List.getElem?_append_left hi] at h1
    rw [List.getElem?_append_left (by omega)] at h2
    exact h.2 i u m h1 h2
  · rw [List.getElem?_append_right (by omega)] at h1
    rw [List.getElem?_append_right (by omega)] at h2
    rw [e] at h1
    generalize i - ls.length = k at *
    cases k with
    | zero => simp at h1 h2; subst h1 h2; exact hd
    | succ k => simp at h1
theorem Dats.set {w : World} {vs : List Value} {ls : List (List UInt8)} (h : Dats Q w vs ls) (k : Nat) {v : Value} {l : List UInt8} (hd : Dat Q w v l) : Dats Q w (vs.set k v) (ls.set k l) := by
  refine ⟨by simp [h.1], fun i u m h1 h2 => ?_⟩
  have e := h.1
  rw [List.getElem?_set] at h1 h2
  by_cases hk : k = i
  · subst hk
    rw [if_pos rfl] at h1 h2
    split at h1 <;> simp_all
  · rw [if_neg hk] at h1 h2
    exact h.2 i u m h1 h2

/-- The cells of so many writes. -/
def wcells : List Nat → List Value → List Value
  | n :: ns, v :: vs => .int .i64 (n : Int) :: v :: wcells ns vs
  | _, _ => []
theorem wcells_length : ∀ (ns : List Nat) (vs : List Value), ns.length = vs.length → (wcells ns vs).length = ns.length * 2
  | [], [], _ => rfl
  | n :: ns, v :: vs, h => by
    have := wcells_length ns vs (by simpa using h)
    simp [wcells, this]; omega
theorem wcells_snoc : ∀ (ns : List Nat) (vs : List Value) (n : Nat) (v : Value), ns.length = vs.length → wcells (ns ++ [n]) (vs ++ [v]) = wcells ns vs ++ [.int .i64 (n : Int), v]
  | [], [], _, _, _ => rfl
  | a :: ns, b :: vs, n, v, h => by simp [wcells, wcells_snoc ns vs n v (by simpa using h)]
theorem wcells_at : ∀ (ns : List Nat) (vs : List Value) (i : Nat) (n : Nat) (v : Value), ns[i]? = some n → vs[i]? = some v → (wcells ns vs)[i * 2]? = some (.int .i64 (n : Int)) ∧ (wcells ns vs)[i * 2 + 1]? = some v
  | a :: ns, b :: vs, 0, n, v, h1, h2 => by simp at h1 h2; subst h1 h2; simp [wcells]
  | a :: ns, b :: vs, i + 1, n, v, h1, h2 => by
    simp only [List.getElem?_cons_succ] at h1 h2
    have := wcells_at ns vs i n v h1 h2
    rw [show (i + 1) * 2 = i * 2 + 1 + 1 by omega]
    simpa [wcells] using this
  | [], _, _, _, _, h1, _ => by simp at h1
  | _ :: _, [], _, _, _, _, h2 => by simp at h2

/-- A disk: what is durable, what stands, the writes between, how many, down?, the gates. -/
structure Dk where
  safe : List (List UInt8)
  now : List (List UInt8)
  wn : List Nat
  wd : List (List UInt8)
  count : Int
  down : Bool
  aon : Bool
  aleft : Int
  fon : Bool
  fleft : Int
/-- What holds of all disks. -/
structure Dk.ok (d : Dk) : Prop where
  len : d.safe.length = d.now.length
  pos : 0 < d.now.length
  max : d.now.length ≤ 512
  wlen : d.wn.length = d.wd.length
  wmax : d.wn.length ≤ 1000000
  win : ∀ n ∈ d.wn, n < d.now.length
  s4 : ∀ l ∈ d.safe, l.length = 4096
  n4 : ∀ l ∈ d.now, l.length = 4096
  w4 : ∀ l ∈ d.wd, l.length = 4096
/-- The cells of a disk. -/
def dkC (vs vn vw : Value) (d : Dk) : Array Value := #[vs, vn, vw, .int .i64 d.count, .bool d.down, .bool d.aon, .int .i64 d.aleft, .bool d.fon, .int .i64 d.fleft]
def foot (D : Nat) (vs vn vw : Value) (b : Nat) : Prop := b = D ∨ vs.ownBlock = some b ∨ vn.ownBlock = some b ∨ vw.ownBlock = some b
/-- The rows of a disk. -/
structure Prt (Q : Nat → Prop) (base : Nat) (w : World) (d : Dk) (vs vn vw : Value) : Prop where
  s : ∃ xs gs cs, vs = .slice (some ⟨gs, 0, none⟩) d.safe.length cs ∧ w.ownsRow base 30 1 vs d.safe.length xs ∧ Dats Q w xs d.safe
  n : ∃ xn gn cn, vn = .slice (some ⟨gn, 0, none⟩) d.now.length cn ∧ w.ownsRow base 30 1 vn d.now.length xn ∧ Dats Q w xn d.now
  w : ∃ xw, w.ownsRow base 78 2 vw d.wn.length (wcells d.wn xw) ∧ Dats Q w xw d.wd
  ne : vs.ownBlock ≠ vn.ownBlock
/-- At D lies this disk; its blocks are S. -/
def IsDk (Q : Nat → Prop) (base : Nat) (w : World) (D : Nat) (S : Nat → Prop) (d : Dk) : Prop :=
  ∃ vs vn vw, S = foot D vs vn vw ∧ base ≤ D ∧ w.heap[D]? = some (.cells (dkC vs vn vw d) 74 (0, 0)) ∧ Prt Q base w d vs vn vw ∧ d.ok

theorem row_not_u8 {w : World} {g : Nat} {cs : Array Value} {t : TypeId} {f : Nat × Nat} (h : w.heap[g]? = some (.cells cs t f)) (ht : t ≠ 5) : ¬ U8 w g := by
  rintro ⟨cs', h'⟩
  rw [h] at h'
  simp only [Option.some.injEq, Obj.cells.injEq] at h'
  exact ht h'.2.1
theorem own_row {w : World} {base n size : Nat} {e : TypeId} {v : Value} {xs : List Value} (h : w.ownsRow base e size v n xs) {b : Nat} (hb : v.ownBlock = some b) : base ≤ b ∧ b < w.heap.size ∧ ∃ cs, w.heap[b]? = some (.cells cs e (0, 0)) := by
  rcases h.2 with ⟨rfl, _⟩ | ⟨g', cap, cur, rfl, hb', hg, r⟩
  · simp [Value.ownBlock] at hb
  · simp only [Value.ownBlock, Option.map_some, Option.some.injEq] at hb
    subst hb
    exact ⟨hb', heap_in hg, cur, hg⟩
theorem own_kpt {S : Nat → Prop} {w w' : World} {base n size : Nat} {e : TypeId} {v : Value} {xs : List Value} (h : w.ownsRow base e size v n xs) (k : Kpt S w w') (hs : ∀ b, v.ownBlock = some b → ¬ S b) : w'.ownsRow base e size v n xs := by
  refine ⟨h.1, ?_⟩
  rcases h.2 with h0 | ⟨g', cap, cur, rfl, hb, hg, r⟩
  · exact .inl h0
  · exact .inr ⟨g', cap, cur, rfl, hb, (k.block g' (heap_in hg) (hs g' rfl)).trans hg, r⟩
theorem IsDk.blocks {base : Nat} {w : World} {D : Nat} {S : Nat → Prop} {d : Dk} (h : IsDk Q base w D S d) {b : Nat} (hb : S b) : base ≤ b ∧ b < w.heap.size ∧ ¬ U8 w b := by
  obtain ⟨vs, vn, vw, rfl, hD, hr, hp, ho⟩ := h
  rcases hb with rfl | hb | hb | hb
  · exact ⟨hD, heap_in hr, row_not_u8 hr (by decide)⟩
  · obtain ⟨xs, gs, cs, _, h1, _⟩ := hp.s
    obtain ⟨h2, h3, cs, h4⟩ := own_row h1 hb
    exact ⟨h2, h3, row_not_u8 h4 (by decide)⟩
  · obtain ⟨xs, gs, cs, _, h1, _⟩ := hp.n
    obtain ⟨h2, h3, cs, h4⟩ := own_row h1 hb
    exact ⟨h2, h3, row_not_u8 h4 (by decide)⟩
  · obtain ⟨xs, h1, _⟩ := hp.w
    obtain ⟨h2, h3, cs, h4⟩ := own_row h1 hb
    exact ⟨h2, h3, row_not_u8 h4 (by decide)⟩
theorem IsDk.nou {base : Nat} {w : World} {D : Nat} {S : Nat → Prop} {d : Dk} (h : IsDk Q base w D S d) : ∀ b, S b → ¬ U8 w b := fun b hb => (h.blocks hb).2.2
theorem IsDk.ok {base : Nat} {w : World} {D : Nat} {S : Nat → Prop} {d : Dk} (h : IsDk Q base w D S d) : d.ok := by
  obtain ⟨vs, vn, vw, rfl, hD, hr, hp, ho⟩ := h
  exact ho
theorem Prt.kpt {T : Nat → Prop} {base : Nat} {w w' : World} {d : Dk} {vs vn vw : Value} (h : Prt Q base w d vs vn vw) (k : Kpt T w w') (hT : ∀ b, T b → ¬ U8 w b)
    (h1 : ∀ b, vs.ownBlock = some b → ¬ T b) (h2 : ∀ b, vn.ownBlock = some b → ¬ T b) (h3 : ∀ b, vw.ownBlock = some b → ¬ T b) : Prt Q base w' d vs vn vw := by
  obtain ⟨⟨xs, gs, cs, a1, a2, a3⟩, ⟨xn, gn, cn, b1, b2, b3⟩, ⟨xw, c1, c2⟩, hne⟩ := h
  exact ⟨⟨xs, gs, cs, a1, own_kpt a2 k h1, a3.kpt k hT⟩, ⟨xn, gn, cn, b1, own_kpt b2 k h2, b3.kpt k hT⟩, ⟨xw, own_kpt c1 k h3, c2.kpt k hT⟩, hne⟩
/-- Another disk's (or nobody's) turn. -/
theorem IsDk.kpt {T : Nat → Prop} {base : Nat} {w w' : World} {D : Nat} {S : Nat → Prop} {d : Dk} (h : IsDk Q base w D S d) (k : Kpt T w w') (hT : ∀ b, T b → ¬ U8 w b) (hST : ∀ b, S b → ¬ T b) : IsDk Q base w' D S d := by
  obtain ⟨vs, vn, vw, rfl, hD, hr, hp, ho⟩ := h
  exact ⟨vs, vn, vw, rfl, hD, (k.block D (heap_in hr) (hST D (.inl rfl))).trans hr, hp.kpt k hT (fun b hb => hST b (.inr (.inl hb))) (fun b hb => hST b (.inr (.inr (.inl hb)))) (fun b hb => hST b (.inr (.inr (.inr hb)))), ho⟩
theorem IsDk.below {base : Nat} {w w' : World} {D : Nat} {S : Nat → Prop} {d : Dk} (h : IsDk Q base w D S d) (k : Below w.heap.size w w') : IsDk Q base w' D S d := h.kpt (T := fun _ => False) (.of_below k) (fun _ h => h.elim) (fun _ _ h => h)
theorem IsDk.mono {base base' : Nat} {w : World} {D : Nat} {S : Nat → Prop} {d : Dk} (h : IsDk Q base w D S d) (hb : base' ≤ base) : IsDk Q base' w D S d := by
  obtain ⟨vs, vn, vw, rfl, hD, hr, ⟨⟨xs, gs, cs, a1, a2, a3⟩, ⟨xn, gn, cn, b1, b2, b3⟩, ⟨xw, c1, c2⟩, hne⟩, ho⟩ := h
  exact ⟨vs, vn, vw, rfl, Nat.le_trans hb hD, hr, ⟨⟨xs, gs, cs, a1, own_mono a2 hb, a3⟩, ⟨xn, gn, cn, b1, own_mono b2 hb, b3⟩, ⟨xw, own_mono c1 hb, c2⟩, hne⟩, ho⟩
/-- What an operation does: the disk then, and what lies in no block of its. -/
def Turn (Q : Nat → Prop) (base : Nat) (w : World) (D : Nat) (S : Nat → Prop) (w' : World) (d' : Dk) : Prop := ∃ S', IsDk Q base w' D S' d' ∧ Kpt S w w' ∧ ∀ b, S' b → S b ∨ w.heap.size ≤ b
theorem Kpt.setCell {S : Nat → Prop} {v w : World} (h : Kpt S v w) {p : Addr} (hp : S p.block) (u : Value) : Kpt S v (w.setCell p u) :=
  ⟨h.os, h.tape, h.output, by simpa [World.setCell] using h.size, fun j hj hs => (heap_setCell_other w p j u (fun e => hs (e ▸ hp))).trans (h.block j hj hs)⟩
theorem Kpt.below {S : Nat → Prop} {v w w' : World} (h : Kpt S v w) (b : Below w.heap.size w w') : Kpt S v w' := h.trans (.of_below b)
theorem Kpt.grown {S : Nat → Prop} {v w w' : World} {row : Option Nat} (h : Kpt S v w) (g : w.grownBy w' row) (hr : ∀ b, row = some b → S b) : Kpt S v w' := h.trans (.of_grown g hr)
theorem nine {w : World} {g : Nat} {t : TypeId} {x0 x1 x2 x3 x4 x5 x6 x7 x8 : Value} (h : w.heap[g]? = some (.cells #[x0, x1, x2, x3, x4, x5, x6, x7, x8] t (0, 0))) :
    w.cell? ⟨g, 0, none⟩ = some x0 ∧ w.cell? ⟨g, 1, none⟩ = some x1 ∧ w.cell? ⟨g, 2, none⟩ = some x2 ∧ w.cell? ⟨g, 3, none⟩ = some x3 ∧ w.cell? ⟨g, 4, none⟩ = some x4 ∧ w.cell? ⟨g, 5, none⟩ = some x5 ∧ w.cell? ⟨g, 6, none⟩ = some x6 ∧ w.cell? ⟨g, 7, none⟩ = some x7 ∧ w.cell? ⟨g, 8, none⟩ = some x8 := by
  refine ⟨?_, ?_, ?_, ?_, ?_, ?_, ?_, ?_, ?_⟩ <;> (rw [cell_of_row _ _ _ _ _ _ h]; rfl)
/-- What may hold a disk's bytes. -/
def Qp (Q : Nat → Prop) (w : World) (b : Nat) : Prop := Q b ∨ w.heap.size ≤ b
theorem Dat.monoQ {Q' : Nat → Prop} {w : World} {v : Value} {l : List UInt8} (h : Dat Q w v l) (hq : ∀ b, Q b → Q' b) : Dat Q' w v l := by
  obtain ⟨b, off, c, cs, e, h1, h2, h3, h4, h5⟩ := h
  exact ⟨b, off, c, cs, e, h1, h2, h3, h4, hq b h5⟩
theorem Dats.monoQ {Q' : Nat → Prop} {w : World} {vs : List Value} {ls : List (List UInt8)} (h : Dats Q w vs ls) (hq : ∀ b, Q b → Q' b) : Dats Q' w vs ls := ⟨h.1, fun i v l h1 h2 => (h.2 i v l h1 h2).monoQ hq⟩
theorem IsDk.monoQ {Q' : Nat → Prop} {base : Nat} {w : World} {D : Nat} {S : Nat → Prop} {d : Dk} (h : IsDk Q base w D S d) (hq : ∀ b, Q b → Q' b) : IsDk Q' base w D S d := by
  obtain ⟨vs, vn, vw, rfl, hD, hr, ⟨⟨xs, gs, cs, a1, a2, a3⟩, ⟨xn, gn, cn, b1, b2, b3⟩, ⟨xw, c1, c2⟩, hne⟩, ho⟩ := h
  exact ⟨vs, vn, vw, rfl, hD, hr, ⟨⟨xs, gs, cs, a1, a2, a3.monoQ hq⟩, ⟨xn, gn, cn, b1, b2, b3.monoQ hq⟩, ⟨xw, c1, c2.monoQ hq⟩, hne⟩, ho⟩
/-- Stores into blocks that hold none of a disk's bytes, and are none of its own. -/
theorem Dat.kptQ {T : Nat → Prop} {w w' : World} {v : Value} {l : List UInt8} (h : Dat Q w v l) (k : Kpt T w w') (hT : ∀ b, Q b → ¬ T b) : Dat Q w' v l := by
  obtain ⟨b, off, c, cs, e, h1, h2, h3, h4, h5⟩ := h
  exact ⟨b, off, c, cs, e, (k.block b (heap_in h1) (hT b h5)).trans h1, h2, h3, h4, h5⟩
theorem Dats.kptQ {T : Nat → Prop} {w w' : World} {vs : List Value} {ls : List (List UInt8)} (h : Dats Q w vs ls) (k : Kpt T w w') (hT : ∀ b, Q b → ¬ T b) : Dats Q w' vs ls := ⟨h.1, fun i v l h1 h2 => (h.2 i v l h1 h2).kptQ k hT⟩
theorem IsDk.kptQ {T : Nat → Prop} {base : Nat} {w w' : World} {D : Nat} {S : Nat → Prop} {d : Dk} (h : IsDk Q base w D S d) (k : Kpt T w w') (hT : ∀ b, Q b → ¬ T b) (hST : ∀ b, S b → ¬ T b) : IsDk Q base w' D S d := by
  obtain ⟨vs, vn, vw, rfl, hD, hr, ⟨⟨xs, gs, cs, a1, a2, a3⟩, ⟨xn, gn, cn, b1, b2, b3⟩, ⟨xw, c1, c2⟩, hne⟩, ho⟩ := h
  exact ⟨vs, vn, vw, rfl, hD, (k.block D (heap_in hr) (hST D (.inl rfl))).trans hr, ⟨⟨xs, gs, cs, a1, own_kpt a2 k (fun b hb => hST b (.inr (.inl hb))), a3.kptQ k hT⟩, ⟨xn, gn, cn, b1, own_kpt b2 k (fun b hb => hST b (.inr (.inr (.inl hb)))), b3.kptQ k hT⟩, ⟨xw, own_kpt c1 k (fun b hb => hST b (.inr (.inr (.inr hb)))), c2.kptQ k hT⟩, hne⟩, ho⟩
theorem frow {w : World} {g : Nat} {cs : Array Value} {t : TypeId} (h : w.heap[g]? = some (.cells cs t (0, 0))) (j : Nat) : w.frozen? ⟨g, j, none⟩ = false := frozen_of_row w g j cs t h
end Go.Proofs.Ytddejjmebokgiaa
