/- Texts joined: Each, Chunk, BtH. -/
import Derived.RangeFuncLeaves
import Derived.WalkKit
import Derived.OwnWalkIn
import Derived.TacticsInMore
import Derived.LoopNIn
import Derived.LoopIn
import Derived.Shelf.RegionOpen
import Derived.Deep.QuietTactic
import Derived.BigQuiet
import Derived.Sort.QuietIn
import Derived.Deep.DeepCutAuto
import Derived.Test.YtahlhdhljjpeoaaGBitsErrors7
import Derived.Test.YtahlhdhljjpeoaaGBitsErrors11
/- A loop over a function: its law. The function that is ranged over hands out the values of a list, one by one; between two rounds an invariant holds; a set tells which blocks are the rounds' own. -/
namespace Go.Proofs.Ytahlhdhljjpeoaa
open Go.RowKit
set_option linter.unusedVariables false
set_option linter.unusedSimpArgs false

/-- What a round does to the set of blocks that are the rounds' own. -/
def Grw (S : Nat → Prop) (W : World) (S' : Nat → Prop) (W' : World) : Prop := ∀ b, S' b → b < W'.heap.size ∧ (S b ∨ W.heap.size ≤ b)
/-- The function gf (with what it has captured) hands out vs; it reads the blocks 'own'. -/
def Iter (P : Program) (gf : Nat) (lb : Array Value) (own : Nat → Prop) (vs : List Value) (w : World) : Prop :=
  ∀ (l : Nat) (J : Nat → (Nat → Prop) → World → Prop) (Jx : (Nat → Prop) → World → Prop) (S : Nat → Prop) (W : World),
    Below w.heap.size w W → (w.heap.size ≤ l ∧ l < W.heap.size) → (∀ b, S b → b < W.heap.size ∧ b ≠ l ∧ ¬ own b) →
    (∀ k S A A', J k S A → Kpt (fun b => W.heap.size ≤ b ∧ ¬ S b) A A' → J k S A') →
    (∀ S A A', Jx S A → Kpt (fun b => W.heap.size ≤ b ∧ ¬ S b) A A' → Jx S A') →
    (∀ (k : Nat) (v : Value) (S : Nat → Prop) (A : World), vs[k]? = some v → J k S A → (∀ b, S b → b < A.heap.size) → W.heap.size ≤ A.heap.size →
      YieldAt Fence.wide 0 P l #[v] A fun e A' => ∃ S', Kpt (fun b => S b ∨ b = l) A A' ∧ Grw S A S' A' ∧ ((e = .returned (.bool true) ∧ J (k + 1) S' A') ∨ (e = .returned (.bool false) ∧ Jx S' A'))) →
    J 0 S W →
    Calls P gf (#[.func (.yield l) #[] #[]] ++ lb) W fun e W' => (∃ v, e = .returned v) ∧ ∃ S', J vs.length S' W' ∨ Jx S' W'
/-- How a round's body may be left. -/
def roundP (I : Nat → (Nat → Prop) → World → Prop) (Ix : Code → (Nat → Prop) → World → Prop) (k : Nat) (S : Nat → Prop) (W : World) : Exit → Act → World → Prop
  | .normal, _, W' => ∃ S', Kpt S W W' ∧ Grw S W S' W' ∧ I (k + 1) S' W'
  | .ret, _, W' => ∃ S', Kpt S W W' ∧ Grw S W S' W' ∧ Ix .ret S' W'
  | .exit id, _, W' => ∃ S', Kpt S W W' ∧ Grw S W S' W' ∧ Ix (.exit id) S' W'
  | _, _, _ => False
def markOf (D : Nat) : Deferred := { target := .collected D, args := #[] }
theorem Kpt.putObj (w : World) (r : Nat) (o : Obj) : Kpt (fun b => b = r) w (w.putObj r o) := ⟨rfl, rfl, rfl, by simp, fun j _ h => World.putObj_heap_other h⟩
theorem wp_each {P : Program} {g : Operand} {t : Tmp} {assign body : Code} {Q : Exit → Act → World → Prop} {a : Act} {w : World} {gf : Nat} {lb : Array Value}
    (hg : a.eval g = .func (.func gf) #[] lb) (eg : ∀ args w, (callFunc gf args).run P w = .ok (.enter gf args) w)
    (own : Nat → Prop) (vs : List Value) (hit : Iter P gf lb own vs w) (hown : ∀ b, own b → b < w.heap.size)
    (I : Nat → (Nat → Prop) → World → Prop) (Ix : Code → (Nat → Prop) → World → Prop) (S0 : Nat → Prop) (hS0 : ∀ b, S0 b → b < w.heap.size ∧ ¬ own b)
    (hI : ∀ k S A A', I k S A → Kpt (fun b => w.heap.size ≤ b ∧ ¬ S b) A A' → I k S A')
    (hIx : ∀ c S A A', Ix c S A → Kpt (fun b => w.heap.size ≤ b ∧ ¬ S b) A A' → Ix c S A') (h0 : I 0 S0 w) (act : Value → Act)
    (hassign : ∀ (l : Nat) (v : Value) (W : World) (K : Act → World → Prop), K (act v) W → assign.wpIn (Fence.wide.inRound l) 0 P (Exit.then K (fun _ _ _ => False)) { tmps := a.tmps.setIfInBounds t v, defers := [] } W)
    (hbody : ∀ (l k : Nat) (v : Value) (S : Nat → Prop) (W : World), vs[k]? = some v → I k S W → (∀ b, S b → b < W.heap.size) → w.heap.size < W.heap.size → body.wpIn (Fence.wide.inRound l) 0 P (roundP I Ix k S W) (act v) W)
    (hdone : ∀ (S : Nat → Prop) (W : World), I vs.length S W → W.heap[w.heap.size]? = some (.deferred (some [])) → ¬ S w.heap.size → Q .normal { a with defers := markOf w.heap.size :: a.defers } W)
    (hstop : ∀ (c : Code) (S : Nat → Prop) (W : World), Ix c S W → W.heap[w.heap.size]? = some (.deferred (some [])) → ¬ S w.heap.size → c.wp P Q { a with defers := markOf w.heap.size :: a.defers } W) :
    (Code.rangeFunc g #[t] assign body).wp P Q a w := by
  refine (wpIn_wide (n := 0)).1 (wpIn_rangeFunc ?_)
  intro fn _
  obtain ⟨rec, hrec⟩ : ∃ rec : LoopState → Option Code → Loop, rec = fun st pe => { state := st, pending := pe, fn, tmps := a.tmps, params := #[t], assign, body, defers := w.heap.size } := ⟨_, rfl⟩
  obtain ⟨L, hL⟩ : ∃ L, L = w.heap.size + 1 := ⟨_, rfl⟩
  obtain ⟨W1, hW1⟩ : ∃ W1, (w.alloc (.deferred (some []))).alloc (.loop (rec .ready none)) = W1 := ⟨_, rfl⟩
  have hL1 : W1.heap[L]? = some (.loop (rec .ready none)) := by
    rw [← hW1, hL]
    have := World.alloc_heap_new (w.alloc (.deferred (some []))) (.loop (rec .ready none))
    rwa [World.size_alloc] at this
  have hD1 : W1.heap[w.heap.size]? = some (.deferred (some [])) := by
    rw [← hW1]
    exact (Below.heap_alloc _ _ _ (by simp)).trans (World.alloc_heap_new w _)
  have hb1 : Below w.heap.size w W1 := by
    rw [← hW1]
    exact ((Below.refl _ w).alloc (Nat.le_refl _) _).alloc (by simp) _
  have hs1 : W1.heap.size = w.heap.size + 2 := by rw [← hW1]; simp
  have hl := run_enterLoop_outer (P := P) (w := w) fn a.tmps #[t] assign body
  refine ⟨L, [markOf w.heap.size], W1, { target := .fn (.func gf) lb, args := #[.func (.yield L) #[] #[]] }, W1, gf, #[.func (.yield L) #[] #[]] ++ lb, W1, ?_, ?_, fun _ _ => trivial, ?_, fun hd => (by simp [Fence.wide] at hd), ?_⟩
  · rw [← hW1, hrec, hL]
    exact hl
  · simp only [resolve, hg]
    simp [go_sem]
  · simp [invoke, go_sem, eg]
  · refine callsIn_wide.2 ?_
    refine (hit L (fun k S W => I k S W ∧ W.heap[L]? = some (.loop (rec .ready none)) ∧ W.heap[w.heap.size]? = some (.deferred (some [])) ∧ ¬ S L ∧ ¬ S w.heap.size)
      (fun S W => ∃ c, Ix c S W ∧ W.heap[L]? = some (.loop (rec .done (some c))) ∧ W.heap[w.heap.size]? = some (.deferred (some [])) ∧ ¬ S L ∧ ¬ S w.heap.size) S0 W1 hb1 ⟨by omega, by omega⟩ ?_ ?_ ?_ ?_ ⟨?_, hL1, hD1, ?_, ?_⟩).mono ?_
    · intro b hb
      have := hS0 b hb
      exact ⟨by omega, by omega, this.2⟩
    · rintro k S A A' ⟨h1, h2, h3, h4, h5⟩ hk
      have hlt := heap_in h2
      exact ⟨hI k S A A' h1 (hk.mono fun b hb => ⟨by omega, hb.2⟩), (hk.block L hlt (fun h => by omega)).trans h2, (hk.block _ (heap_in h3) (fun h => by omega)).trans h3, h4, h5⟩
    · rintro S A A' ⟨c, h1, h2, h3, h4, h5⟩ hk
      have hlt := heap_in h2
      exact ⟨c, hIx c S A A' h1 (hk.mono fun b hb => ⟨by omega, hb.2⟩), (hk.block L hlt (fun h => by omega)).trans h2, (hk.block _ (heap_in h3) (fun h => by omega)).trans h3, h4, h5⟩
    · rintro k v S A hv ⟨h1, h2, h3, h4, h5⟩ hS hA
      have hy := run_yield (P := P) (args := #[v]) h2 (by rw [hrec]; rfl)
      rw [hrec] at hy
      refine ⟨fn, _, assign, body, hy, roundIn_of_wpIn trivial ?_⟩
      have ez : (#[t].zip #[v]).foldl (fun (tmps : Array Value) (x : Tmp × Value) => tmps.setIfInBounds x.1 x.2) a.tmps = a.tmps.setIfInBounds t v := by simp
      rw [ez]
      refine hassign L v A _ ⟨_, run_beginRound h2 (by rw [hrec]), ?_⟩
      clear hy
      have hlt : L < A.heap.size := heap_in h2
      have k1 := Kpt.putObj A L (.loop { rec .ready none with state := .busy })
      have e1 : (A.putObj L (.loop { rec .ready none with state := .busy })).heap[L]? = some (.loop { rec .ready none with state := .busy }) := World.putObj_heap_same hlt
      have e2 : (A.putObj L (.loop { rec .ready none with state := .busy })).heap[w.heap.size]? = some (.deferred (some [])) := (World.putObj_heap_other (by omega)).trans h3
      have hi1 := hI k S _ _ h1 (k1.mono fun b hb => by subst hb; exact ⟨by omega, h4⟩)
      have z1 : (A.putObj L (.loop { rec .ready none with state := .busy })).heap.size = A.heap.size := by simp
      revert k1 e1 e2 hi1 z1
      generalize A.putObj L (.loop { rec .ready none with state := .busy }) = A1
      intro k1 e1 e2 hi1 z1
      refine wpIn_mono (hbody L k v S A1 hv hi1 (fun b hb => by rw [z1]; exact hS b hb) (by omega)) ?_
      -- at the round's end
      have fin : ∀ (jump : Option Code) (S' : Nat → Prop) (A2 : World), Kpt S A1 A2 → Grw S A1 S' A2 → ∃ A3, (Instr.endRound L jump).run P A2 = .ok (.bool jump.isNone) A3 ∧ Kpt (fun b => S b ∨ b = L) A A3 ∧ Grw S A S' A3 ∧ Kpt (fun b => b = L) A2 A3 ∧
          A3.heap[L]? = some (.loop (rec (if jump.isNone then .ready else .done) jump)) ∧ A3.heap[w.heap.size]? = some (.deferred (some [])) ∧ ¬ S' L ∧ ¬ S' w.heap.size := by
        intro jump S' A2 kk gg
        have e3 : A2.heap[L]? = some (.loop { rec .ready none with state := .busy }) := (kk.block L (heap_in e1) h4).trans e1
        have e4 : A2.heap[w.heap.size]? = some (.deferred (some [])) := (kk.block _ (heap_in e2) h5).trans e2
        have hr := run_endRound (P := P) jump e3
        rw [hrec] at hr ⊢
        have k3 := Kpt.putObj A2 L (.loop { rec .ready none with state := if jump.isNone then .ready else .done, pending := jump })
        rw [hrec] at k3
        refine ⟨_, hr, (k1.mono fun b hb => .inr hb).trans ((kk.mono fun b hb => .inl hb).trans (k3.mono fun b hb => .inr hb)), ?_, k3, World.putObj_heap_same (heap_in e3), (World.putObj_heap_other (by omega)).trans e4, ?_, ?_⟩
        · intro b hb
          have := gg b hb
          rw [z1] at this
          simpa using this
        · intro hs
          have := gg _ hs
          rcases this.2 with h | h
          · exact h4 h
          · omega
        · intro hs
          have := gg _ hs
          rcases this.2 with h | h
          · exact h5 h
          · omega
      rintro e a3 A2 hp
      cases e with
      | normal =>
        obtain ⟨S', kk, gg, hi⟩ := hp
        obtain ⟨A3, r1, r2, r3, r4, r5, r6, r7, r8⟩ := fin none S' A2 kk gg
        exact ⟨_, A3, r1, S', r2, r3, .inl ⟨rfl, hI _ _ _ _ hi (r4.mono fun b hb => by subst hb; exact ⟨by omega, r7⟩), r5, r6, r7, r8⟩⟩
      | ret =>
        obtain ⟨S', kk, gg, hi⟩ := hp
        obtain ⟨A3, r1, r2, r3, r4, r5, r6, r7, r8⟩ := fin (some .ret) S' A2 kk gg
        exact ⟨_, A3, r1, S', r2, r3, .inr ⟨rfl, _, hIx _ _ _ _ hi (r4.mono fun b hb => by subst hb; exact ⟨by omega, r7⟩), r5, r6, r7, r8⟩⟩
      | exit id =>
        obtain ⟨S', kk, gg, hi⟩ := hp
        obtain ⟨A3, r1, r2, r3, r4, r5, r6, r7, r8⟩ := fin (some (.exit id)) S' A2 kk gg
        exact ⟨_, A3, r1, S', r2, r3, .inr ⟨rfl, _, hIx _ _ _ _ hi (r4.mono fun b hb => by subst hb; exact ⟨by omega, r7⟩), r5, r6, r7, r8⟩⟩
      | goto t => exact hp.elim
      | panic ch => exact hp.elim
      | outgrown => exact hp.elim
    · exact hI 0 S0 _ _ h0 ((Kpt.of_below (S := fun _ => False) hb1).mono fun b hb => hb.elim)
    · intro h; have := hS0 _ h; omega
    · intro h; have := hS0 _ h; omega
    · rintro e W2 ⟨⟨v, rfl⟩, S', ⟨hi, e1, e2, n1, n2⟩ | ⟨c, hi, e1, e2, n1, n2⟩⟩
      · have k3 := Kpt.putObj W2 L (.loop { rec .ready none with state := .exhausted })
        refine ⟨none, _, by have := run_endLoop (P := P) e1 (by rw [hrec]; simp); rw [hrec] at this; exact this, ?_⟩
        rw [hrec] at k3
        exact hdone S' _ (hI _ _ _ _ hi (k3.mono fun b hb => by subst hb; exact ⟨by omega, n1⟩)) ((World.putObj_heap_other (by omega)).trans e2) n2
      · have k3 := Kpt.putObj W2 L (.loop { rec .done (some c) with state := .exhausted })
        refine ⟨some c, _, by have := run_endLoop (P := P) e1 (by rw [hrec]; simp); rw [hrec] at this; exact this, ?_⟩
        rw [hrec] at k3
        exact wpIn_wide.2 (hstop c S' _ (hIx _ _ _ _ hi (k3.mono fun b hb => by subst hb; exact ⟨by omega, n1⟩)) ((World.putObj_heap_other (by omega)).trans e2) n2)
theorem Kpt.stc {S : Nat → Prop} {v w : World} (h : Kpt S v w) {p : Addr} (hp : S p.block) (u : Value) : Kpt S v (w.setCell p u) :=
  ⟨h.os, h.tape, h.output, by simpa [World.setCell] using h.size, fun j hj hs => (heap_setCell_other w p j u (fun e => hs (e ▸ hp))).trans (h.block j hj hs)⟩
theorem belowK {B : Nat} {S : Nat → Prop} {w W W' : World} (h : Below B w W) (k : Kpt S W W') (hS : ∀ b, S b → B ≤ b) (hB : B ≤ W.heap.size) : Below B w W' :=
  ⟨k.os.trans h.os, k.tape.trans h.tape, k.output.trans h.output, Nat.le_trans h.size k.size, fun j hj => (k.block j (by omega) (fun hs => by have := hS j hs; omega)).trans (h.block j hj)⟩
theorem Kpt.up {S T : Nat → Prop} {w A A' : World} (h : Kpt S w A) (k : Kpt T A A') (ht : ∀ b, T b → S b ∨ w.heap.size ≤ b) : Kpt S w A' :=
  ⟨k.os.trans h.os, k.tape.trans h.tape, k.output.trans h.output, Nat.le_trans h.size k.size, fun j hj hs => (k.block j (Nat.lt_of_lt_of_le hj h.size) (fun e => (ht j e).elim hs (fun h => by omega))).trans (h.block j hj hs)⟩
theorem kpt_below0 (w : World) : Below w.heap.size w w.drew := ⟨rfl, rfl, rfl, Nat.le_refl _, fun _ _ => rfl⟩
/-- The block of an address. -/
def blkOf (a : Option Addr) (b : Nat) : Prop := a.map (·.block) = some b
theorem OwnB.kptA {S : Nat → Prop} {base c : Nat} {w w' : World} {a : Option Addr} {l : List UInt8} (h : OwnB base w a c l) (k : Kpt S w w') (hs : ∀ b, blkOf a b → ¬ S b) : OwnB base w' a c l := by
  refine ⟨h.1, ?_⟩
  rcases h.2 with h0 | ⟨g', cap, cur, hv, hb, hg, r⟩
  · exact .inl h0
  · simp only [Value.slice.injEq, true_and] at hv
    obtain ⟨rfl, rfl⟩ := hv
    exact .inr ⟨g', c, cur, rfl, hb, (k.block g' (heap_in hg) (hs g' rfl)).trans hg, r⟩
theorem OwnB.blk {base c : Nat} {w : World} {a : Option Addr} {l : List UInt8} (h : OwnB base w a c l) {b : Nat} (hb : blkOf a b) : base ≤ b ∧ b < w.heap.size := by
  unfold blkOf at hb
  rcases h.2 with ⟨hv, h0⟩ | ⟨g', cap, cur, hv, hbb, hg, r⟩
  · simp only [Value.slice.injEq] at hv
    obtain ⟨rfl, _⟩ := hv
    simp at hb
  · simp only [Value.slice.injEq, true_and] at hv
    obtain ⟨rfl, rfl⟩ := hv
    simp at hb
    subst hb
    exact ⟨hbb, heap_in hg⟩
/-- A function that holds such a loop. -/
theorem calls_marks {P : Program} {f : FuncId} {fn : Func} {c : Code} {args : Array Value} {w : World} {R : Ending → World → Prop} (hf : P.funcs[f]? = some fn) (hb : fn.body = some c)
    (h : c.wp P (bodyPostM Fence.wide 0 P fn R) { tmps := args ++ Array.replicate (fn.ntmps - args.size) undef, defers := [] } w) : Calls P f args w R :=
  callsIn_wide.1 (callsIn_of_wp_marks (F := Fence.wide) (n := 0) hf hb trivial (wpIn_wide.2 h) rfl)
theorem leave1 {P : Program} {fn : Func} {R : Ending → World → Prop} {e : Exit} {a : Act} {w : World} {D : Nat} {v : Value} (he : e = .ret ∨ e = .normal) (hd : a.defers = [markOf D]) (h : w.heap[D]? = some (.deferred (some [])))
    (hv : (results fn a.tmps).run P (w.putObj D (.deferred none)) = .ok v (w.putObj D (.deferred none))) (hR : R (.returned v) (w.putObj D (.deferred none))) : bodyPostM Fence.wide 0 P fn R e a w := by
  have : LeavesInM Fence.wide 0 P fn a.tmps R a.defers .returning w := by
    rw [hd]
    exact ⟨by simp, .inl ⟨D, _, rfl, run_takeDeferred h, v, hv, hR⟩⟩
  rcases he with rfl | rfl <;> exact this
theorem leave0 {P : Program} {fn : Func} {R : Ending → World → Prop} {e : Exit} {a : Act} {w : World} {v : Value} (he : e = .ret ∨ e = .normal) (hd : a.defers = [])
    (hv : (results fn a.tmps).run P w = .ok v w) (hR : R (.returned v) w) : bodyPostM Fence.wide 0 P fn R e a w := by
  have : LeavesInM Fence.wide 0 P fn a.tmps R a.defers .returning w := by
    rw [hd]
    exact ⟨v, hv, hR⟩
  rcases he with rfl | rfl <;> exact this
theorem below_putObj {B : Nat} {w W : World} (h : Below B w W) {D : Nat} (hD : B ≤ D) (o : Obj) : Below B w (W.putObj D o) :=
  ⟨h.os, h.tape, h.output, by simpa using h.size, fun k hk => (World.putObj_heap_other (by omega)).trans (h.block k hk)⟩
theorem Kpt.put {S : Nat → Prop} {w W : World} (h : Kpt S w W) {D : Nat} (hD : S D ∨ w.heap.size ≤ D) (o : Obj) : Kpt S w (W.putObj D o) :=
  ⟨h.os, h.tape, h.output, by simpa using h.size, fun k hk hs => (World.putObj_heap_other (fun e => by subst e; rcases hD with h | h; exact hs h; omega)).trans (h.block k hk hs)⟩
end Go.Proofs.Ytahlhdhljjpeoaa

/- slices.Chunk over bytes: what it hands out. -/
namespace Go.Proofs.Ytahlhdhljjpeoaa
open Go.RowKit Go.Shelf
attribute [local go_sem] Oper.semAt_some
set_option maxHeartbeats 3200000
set_option maxRecDepth 100000
set_option linter.unusedVariables false
set_option linter.unusedSimpArgs false

/-- The parts of so many bytes, n each, from a place on. -/
def chunkV (b off n N : Nat) : List Value := (List.range ((N + n - 1) / n)).map fun k => .slice (some ⟨b, off + k * n, none⟩) (min n (N - k * n)) (min n (N - k * n))
theorem Chunk_any (w : World) (a : Option Addr) (N c : Nat) (n : Nat) (hn : 1 ≤ n ∧ n ≤ 10000) :
    Calls Try.prog 57 #[.slice a N c, .int .i64 (n : Int)] w fun e w' => e = .returned (.func (.func 93) #[] #[.pointer (some ⟨w.heap.size, 0, none⟩), .pointer (some ⟨w.heap.size + 1, 0, none⟩)]) ∧
      w' = (w.alloc (.cells #[.slice a N c] 61)).alloc (.cells #[.int .i64 (n : Int)] 3) := by
  obtain ⟨h1, h2⟩ := hn
  have hmf : ∀ (fn : Fn) (first cap : Array Value) (w : World), (Instr.makeFunc fn first cap).run Try.prog w = .ok (.func fn first cap) w := fun _ _ _ _ => rfl
  go_enter Try.func57, Try.ntmps57
  go_wp2
  go_ret
  exact ⟨rfl, rfl⟩
theorem chunkV_len (b off n N : Nat) : (chunkV b off n N).length = (N + n - 1) / n := by simp [chunkV]
theorem chunkV_at (b off n N k : Nat) (hn : 1 ≤ n) (hk : k * n < N) : (chunkV b off n N)[k]? = some (.slice (some ⟨b, off + k * n, none⟩) (min n (N - k * n)) (min n (N - k * n))) := by
  have h : k < (N + n - 1) / n := by
    rw [Nat.lt_iff_add_one_le, Nat.le_div_iff_mul_le (by omega), Nat.add_mul]
    omega
  simp [chunkV, h]
theorem chunkV_end (n N k : Nat) (hn : 1 ≤ n) (h1 : N ≤ k * n) (h2 : (k - 1) * n < N ∨ k = 0) : (N + n - 1) / n = k := by
  rcases h2 with h2 | rfl
  · rcases k with _ | k
    · simp at h1 h2; omega
    · simp only [Nat.add_sub_cancel] at h2
      rw [Nat.add_mul] at h1
      exact Nat.div_eq_of_lt_le (by rw [Nat.add_mul]; omega) (by simp only [Nat.add_mul]; omega)
  · have : N = 0 := by simpa using h1
    subst this
    exact Nat.div_eq_of_lt (by omega)
theorem kptN (S : Nat → Prop) (w : World) (n : Nat) : Kpt S w (w.drewN n) := ⟨rfl, rfl, rfl, Nat.le_refl _, fun _ _ _ => rfl⟩
/-- What the closure hands out. -/
theorem Chunk_iter (w : World) (Bs Bn b off N c n : Nat) (hn : 1 ≤ n ∧ n ≤ 10000) (hN : N ≤ c ∧ N ≤ 200000000000000 ∧ c ≤ 9223372036854775807)
    (hs : w.heap[Bs]? = some (.cells #[.slice (some ⟨b, off, none⟩) N c] 61 (0, 0))) (hc : w.heap[Bn]? = some (.cells #[.int .i64 (n : Int)] 3 (0, 0))) :
    Iter Try.prog 93 #[.pointer (some ⟨Bs, 0, none⟩), .pointer (some ⟨Bn, 0, none⟩)] (fun b => b = Bs ∨ b = Bn) (chunkV b off n N) w := by
  intro l J Jx S W hW hl hS hJ hJx hY h0
  obtain ⟨hn1, hn2⟩ := hn
  obtain ⟨hN1, hN2, hN3⟩ := hN
  have hs' := (hW.block _ (heap_in hs)).trans hs
  have hc' := (hW.block _ (heap_in hc)).trans hc
  have hBs := heap_in hs
  have hBn := heap_in hc
  have hlen := chunkV_len b off n N
  have HAT := hid (fun k => chunkV_at b off n N k hn1)
  have HY := hid hY
  have HJ := hid hJ; have HJX := hid hJx
  have HS := hid hS
  clear hY hJ hJx hs hc hW hS
  go_enter Try.func93, Try.ntmps93
  go_wp2_with fail
  go_loopw [4] (fun i wr => ∃ (k : Nat) (S1 : Nat → Prop), (k = 0 ∨ (k - 1) * n < N) ∧ i = .int .i64 ((k * n : Nat) : Int) ∧ J k S1 wr ∧ (∀ b, S1 b → b < wr.heap.size ∧ b ≠ l ∧ b ≠ Bs ∧ b ≠ Bn) ∧ W.heap.size ≤ wr.heap.size ∧
      wr.heap[Bs]? = some (.cells #[.slice (some ⟨b, off, none⟩) N c] 61 (0, 0)) ∧ wr.heap[Bn]? = some (.cells #[.int .i64 (n : Int)] 3 (0, 0))) (fun i _ => N + n - (intOf i).toNat)
  case atStart => exact ⟨0, S, .inl rfl, by simp, h0, fun b hb => by have := HS.out b hb; exact ⟨this.1, this.2.1, fun e => this.2.2 (.inl e), fun e => this.2.2 (.inr e)⟩, Nat.le_refl _, hs', hc'⟩
  case round =>
    obtain ⟨k, S1, hk, rfl, hJs, hS1, hsz, hbs, hbn⟩ := hrel
    have cs := cell_of_one hbs
    have cn := cell_of_one hbn
    have HS1 := hid hS1
    have cs' : wr.drew.cell? ⟨Bs, 0, none⟩ = some (.slice (some ⟨b, off, none⟩) N c) := cs
    have cn' : wr.drew.cell? ⟨Bn, 0, none⟩ = some (.int .i64 (n : Int)) := cn
    clear hS1 hs' hc' h0
    by_cases hlt : k * n < N
    · have hv := HAT.out k hlt
      generalize hp : k * n = p at *
      obtain ⟨m, hm⟩ : ∃ m, m = min n (N - p) := ⟨_, rfl⟩
      rw [← hm] at hv
      have hm1 : 1 ≤ m := by omega
      have hm2 : p + m ≤ N := by omega
      have hmin : ∀ (ts : Array TypeId) (ty : TypeId) (W : World), (Builtin.min_ ts ty #[.int .i64 (n : Int), .int .i64 ((N - p : Nat) : Int)]).run Try.prog W = .ok (.int .i64 (m : Int)) W := by
        intro ts ty W
        rw [run_min_int2]
        have : (if ((N - p : Nat) : Int) < (n : Int) then ((N - p : Nat) : Int) else (n : Int)) = (m : Int) := by rw [hm]; split <;> omega
        rw [this]
      have hlt' : (p : Int) < (N : Int) := by omega
      have HM := hid hm
      clear hm
      refine (wpIn_wide (n := 1)).1 ?_
      gi_wp2_with fail
      gi_quiet (fail)
      have HN := HS1.out
      have hJ1 := HJ.out k S1 wr (wr.drewN nq) hJs (kptN _ wr nq)
      obtain ⟨fn, tmps, assign, body, hy, hR⟩ := HY.out k _ S1 (wr.drewN nq) hv hJ1 (fun b hb => (HN b hb).1) hsz
      have hend : p + m - p = m := by omega
      have HY2 := hid hend
      have c1 : (wr.drewN nq).cell? ⟨Bs, 0, none⟩ = some (.slice (some ⟨b, off, none⟩) N c) := cs
      clear hJs hJ1 HY HAT cs' cn' cs cn hmin
      gi_wp2
      refine hR.mono ?_
      rintro e W3 ⟨S3, kk, gg, ⟨rfl, hJ3⟩ | ⟨rfl, hJ3⟩⟩
      · have hbs3 := (kk.block Bs (heap_in hbs) (fun h => h.elim (fun h => (HN Bs h).2.2.1 rfl) (by omega))).trans hbs
        have hbn3 := (kk.block Bn (heap_in hbn) (fun h => h.elim (fun h => (HN Bn h).2.2.2 rfl) (by omega))).trans hbn
        have cn3 := cell_of_one hbn3
        have hz3 := Nat.le_trans hsz kk.size
        have hN3 : ∀ b, S3 b → b < W3.heap.size ∧ b ≠ l ∧ b ≠ Bs ∧ b ≠ Bn := by
          intro b hb
          obtain ⟨g1, g2⟩ := gg b hb
          refine ⟨g1, ?_⟩
          rcases g2 with g2 | g2
          · exact (HN b g2).2
          · have e1 := heap_in hbs
            have e2 := heap_in hbn
            change wr.heap.size ≤ b at g2
            omega
        have HN3 := hid hN3
        clear hbs hbn kk gg HN hN3
        gi_wp2
        go_roundw
        case rel => exact ⟨k + 1, S3, .inr (by simpa [hp] using hlt), by rw [Nat.add_mul, hp]; go_num, hJ3, HN3.out, hz3, hbs3, hbn3⟩
        case measure => simp [intOf]; omega
      · gi_wp2
        refine bodyPost_ret (results_none rfl _ _ _) rfl ?_
        exact ⟨⟨_, rfl⟩, S3, .inr hJ3⟩
    · have hlt' : ¬ ((k * n : Nat) : Int) < (N : Int) := by omega
      have e := chunkV_end n N k hn1 (by omega) (hk.elim (fun h => .inr h) .inl)
      generalize hp : k * n = p at *
      go_wp2
      go_end0
      exact ⟨⟨_, rfl⟩, S1, .inl hJs⟩
end Go.Proofs.Ytahlhdhljjpeoaa

/- bits.holes: what it hands out (printed by gen24e.py). -/
namespace Go.Proofs.Ytahlhdhljjpeoaa
open Go.RowKit Go.Shelf
attribute [local go_sem] Oper.semAt_some
set_option maxHeartbeats 3200000
set_option maxRecDepth 100000
set_option linter.unusedVariables false
set_option linter.unusedSimpArgs false

/-- The holes: where each begins, how many blocks. n: the place, c: so many were free ahead of it. -/
def holesG : Nat → Nat → List Bool → List (Nat × Nat)
  | n, c, [] => if c = 0 then [] else [(n - c, c)]
  | n, c, false :: u => holesG (n + 1) (c + 1) u
  | n, c, true :: u => if c = 0 then holesG (n + 1) 0 u else (n - c, c) :: holesG (n + 1) 0 u
def holeV (h : Nat × Nat) : Value := .agg #[.int .i64 0, .int .i64 (h.1 : Int), .int .i64 (h.2 : Int)]
def holesV (u : List Bool) : List Value := (holesG 0 0 u).map holeV
theorem drop_cons {u : List Bool} {n : Nat} {b : Bool} (h : u[n]? = some b) : u.drop n = b :: u.drop (n + 1) := by
  obtain ⟨h1, h2⟩ := List.getElem?_eq_some_iff.1 h
  rw [List.drop_eq_getElem_cons h1, h2]
theorem holes_used {u : List Bool} {n : Nat} (h : u[n]? = some true) : holesG n 0 (u.drop n) = holesG (n + 1) 0 (u.drop (n + 1)) := by
  rw [drop_cons h]
  rfl
theorem holes_free {u : List Bool} {n c : Nat} (h : u[n]? = some false) : holesG n c (u.drop n) = holesG (n + 1) (c + 1) (u.drop (n + 1)) := by
  rw [drop_cons h]
  rfl
theorem holes_end {u : List Bool} {n c : Nat} (hc : 0 < c) (h : u[n]? = some true ∨ u.length ≤ n) : holesG n c (u.drop n) = (n - c, c) :: holesG (n + 1) 0 (u.drop (n + 1)) := by
  rcases h with h | h
  · rw [drop_cons h]
    show (if c = 0 then _ else _) = _
    rw [if_neg (by omega)]
  · rw [List.drop_of_length_le h, List.drop_of_length_le (by omega)]
    show (if c = 0 then _ else _) = _
    rw [if_neg (by omega)]
    rfl
theorem RdV.kptN {S : Nat → Prop} {w w' : World} {b off : Nat} {xs : List Value} (h : RdV w (some ⟨b, off, none⟩) xs) (k : Kpt S w w') (hs : ¬ S b) : RdV w' (some ⟨b, off, none⟩) xs := by
  intro hn
  obtain ⟨b', off', e, hc⟩ := h hn
  cases e
  exact ⟨b, off, rfl, fun j u hu => k.cell (hc j u hu) hs⟩
theorem cells3b {w : World} {g : Nat} {a b c : Value} {t : TypeId} (h : w.heap[g]? = some (.cells #[a, b, c] t (0, 0))) : w.cell? ⟨g, 0, none⟩ = some a ∧ w.cell? ⟨g, 1, none⟩ = some b ∧ w.cell? ⟨g, 2, none⟩ = some c := by
  refine ⟨?_, ?_, ?_⟩ <;> (rw [cell_of_row _ _ _ _ _ _ h]; rfl)
theorem holes_iter (w : World) (Bs Ub off N c : Nat) (u : List Bool) (hN : N = u.length) (hN5 : N ≤ 1000) (hs : w.heap[Bs]? = some (.cells #[.slice (some ⟨Ub, off, none⟩) N c] 42 (0, 0))) (hr : RdV w (some ⟨Ub, off, none⟩) (BvL u)) (hU : Ub < w.heap.size) :
    Iter Try.prog 116 #[.pointer (some ⟨Bs, 0, none⟩)] (fun b => b = Bs ∨ b = Ub) (holesV u) w := by
  intro l J Jx S W hW hl hS hJ hJx hY h0
  have hs' := (hW.block _ (heap_in hs)).trans hs
  have hr' := hr.kept hW
  have hBs := heap_in hs
  have HY := hid hY; have HJ := hid hJ; have HJX := hid hJx; have HS := hid hS; have HN := hid hN
  have hWz := hW.size
  clear hY hJ hJx hs hW hS hr hN
  go_enter Try.func116, Try.ntmps116
  go_wp2_with fail
  go_loopw [3] (fun i wr => ∃ (k n : Nat) (S1 : Nat → Prop), k ≤ (holesG 0 0 u).length ∧ n ≤ N + 1 ∧ i = .int .i64 ((n : Nat) : Int) ∧ (holesG 0 0 u).drop k = holesG n 0 (u.drop n) ∧ J k S1 wr ∧ (∀ b, S1 b → b < wr.heap.size ∧ b ≠ l ∧ b ≠ Bs ∧ b ≠ Ub) ∧ W.heap.size ≤ wr.heap.size ∧
      wr.heap[Bs]? = some (.cells #[.slice (some ⟨Ub, off, none⟩) N c] 42 (0, 0)) ∧ RdV wr (some ⟨Ub, off, none⟩) (BvL u)) (fun i _ => N + 1 - (intOf i).toNat)
  case atStart => exact ⟨0, 0, S, Nat.zero_le _, by omega, rfl, rfl, h0, fun b hb => by have := HS.out b hb; exact ⟨this.1, this.2.1, fun e => this.2.2 (.inl e), fun e => this.2.2 (.inr e)⟩, Nat.le_refl _, hs', hr'⟩
  case round => as_aux_lemma =>
    obtain ⟨k, n, S1, hkl, hn, rfl, hH, hJs, hS1, hsz, hbs, hru⟩ := hrel
    have cs := cell_of_one hbs
    clear hs' hr' h0
    by_cases hlt : n < N
    · obtain ⟨b, hb⟩ : ∃ b, u[n]? = some b := ⟨u[n]'(by rw [← HN.out]; exact hlt), List.getElem?_eq_getElem _⟩
      have hne : BvL u ≠ [] := by
        intro e
        have := BvL_length u
        rw [e] at this
        have := HN.out
        simp at *
        omega
      obtain ⟨b1, o1, e, hc⟩ := hru hne
      cases e
      have m0 := hc n (.bool b) (by simp [BvL, hb])
      have HNE := hid hne
      clear hc hne
      cases b with
      | true =>
        have HH := hid (hH.trans (holes_used hb)); have HJS := hid hJs; have HS1 := hid hS1; have HBS := hid hbs; have HRU := hid hru
        clear hH hb hJs hS1 hbs hru
        go_wp2_with fail
        go_roundw
        case rel => exact ⟨k, n + 1, S1, hkl, by omega, by go_num, HH.out, HJS.out, HS1.out, hsz, HBS.out, HRU.out⟩
        case measure => simp [intOf]; omega
      | false =>
        have HH := hid hH; have HJS := hid hJs; have HS1 := hid hS1; have HBS := hid hbs; have HRU := hid hru; have HB := hid hb
        obtain ⟨wo, rfl⟩ : ∃ wo : World, wo = wr := ⟨_, rfl⟩
        clear hH hb hJs hS1 hbs hru
        have hX := heap_alloc_new wo (.cells #[.int .i64 0, .int .i64 (n : Int), .int .i64 ((0 : Nat) : Int)] 24)
        have bX : Below wo.heap.size wo (wo.alloc (.cells #[.int .i64 0, .int .i64 (n : Int), .int .i64 ((0 : Nat) : Int)] 24)) := (Below.refl _ _).alloc (Nat.le_refl _) _
        have HX := hid hX; have BX := hid bX
        clear hX bX
        go_wp2_with fail
        go_loopw [3] (fun i wr => ∃ m : Nat, n + m ≤ N ∧ i = .int .i64 ((n + m : Nat) : Int) ∧ holesG n 0 (u.drop n) = holesG (n + m) m (u.drop (n + m)) ∧ wr.heap[wo.heap.size]? = some (.cells #[.int .i64 0, .int .i64 (n : Int), .int .i64 ((m : Nat) : Int)] 24 (0, 0)) ∧ Below wo.heap.size wo wr) (fun i _ => N + 1 - (intOf i).toNat)
        case atStart => exact ⟨0, by omega, rfl, rfl, HX.out, BX.out⟩
        case round => as_aux_lemma =>
          obtain ⟨m, hm, rfl, hG, hx, hb2⟩ := hrel
          have cs2 := cell_of_one ((hb2.block _ (heap_in HBS.out)).trans HBS.out)
          obtain ⟨x0, x1, x2⟩ := cells3b hx
          have ru2 := HRU.out.kept hb2
          clear m0 cs
          by_cases hin : n + m < N ∧ u[n + m]? = some false
          · obtain ⟨hin1, hin2⟩ := hin
            obtain ⟨_, _, e, hc⟩ := ru2 HNE.out
            cases e
            have m1 := hc (n + m) (.bool false) (by simp [BvL, hin2])
            have f2 := frow hx 2
            have hx2 : (wr.setCell ⟨wo.heap.size, 2, none⟩ (.int .i64 ((m + 1 : Nat) : Int))).heap[wo.heap.size]? = some (.cells #[.int .i64 0, .int .i64 (n : Int), .int .i64 ((m + 1 : Nat) : Int)] 24 (0, 0)) := heap_setCell_same _ _ 2 _ _ _ hx
            have hb3 := hb2.setCell (p := ⟨wo.heap.size, 2, none⟩) (Nat.le_refl _) (.int .i64 ((m + 1 : Nat) : Int))
            rw [show ((m + 1 : Nat) : Int) = (m : Int) + 1 from by push_cast; rfl] at hx2 hb3
            have HX2 := hid hx2; have HB3 := hid hb3; have HG := hid (hG.trans (holes_free hin2))
            have h01 : (((n + m : Nat) : Int)) < (N : Int) := by omega
            clear hx hb2 hc ru2 hx2 hb3 hG hin2 x0 x1
            go_wp2_with fail
            go_roundw
            case rel => exact ⟨m + 1, by omega, by go_num, HG.out, HX2.out, HB3.out⟩
            case measure => simp [intOf]; omega
          · have hend : u[n + m]? = some true ∨ u.length ≤ n + m := by
              by_cases hlt2 : n + m < N
              · obtain ⟨b, hb⟩ : ∃ b, u[n + m]? = some b := ⟨u[n + m]'(by rw [← HN.out]; exact hlt2), List.getElem?_eq_getElem _⟩
                cases b with
                | true => exact .inl hb
                | false => exact absurd ⟨hlt2, hb⟩ hin
              · exact .inr (by rw [← HN.out]; omega)
            have hm0 : 0 < m := by
              rcases Nat.eq_zero_or_pos m with h | h
              · subst h
                exact absurd ⟨hlt, HB.out⟩ hin
              · exact h
            have HE := hid hend; have HG := hid hG
            have HX := hid hx; have HB2 := hid hb2
            clear hin hx hb2 hend hG
            rcases HE.out with h | h
            · obtain ⟨_, _, e, hc⟩ := ru2 HNE.out
              cases e
              have m1 := hc (n + m) (.bool true) (by simp [BvL, h])
              have hlt2 : n + m < N := by have := (List.getElem?_eq_some_iff.1 h).1; rw [HN.out]; exact this
              clear hc ru2 h
              go_upto_region 8 with fail
              have hJ1 := HJ.out k S1 wo wr HJS.out (Kpt.of_below HB2.out)
              have hv : (holesV u)[k]? = some (.agg #[.int .i64 0, .int .i64 (n : Int), .int .i64 (m : Int)]) := by
                have e1 := HH.out.trans (HG.out.trans (holes_end hm0 HE.out))
                have e2 : (holesG 0 0 u)[k]? = some (n + m - m, m) := by
                  have := congrArg (fun l => l[0]?) e1
                  simpa [List.getElem?_drop] using this
                rw [holesV, List.getElem?_map, e2, Nat.add_sub_cancel]
                rfl
              obtain ⟨fn, tmps, assign, body, hy, hR⟩ := HY.out k _ S1 wr hv hJ1 (fun b hb => Nat.lt_of_lt_of_le (HS1.out b hb).1 HB2.out.size) (Nat.le_trans hsz HB2.out.size)
              have hrest : (holesG 0 0 u).drop (k + 1) = holesG (n + m + 1) 0 (u.drop (n + m + 1)) := by
                have e1 := HH.out.trans (HG.out.trans (holes_end hm0 HE.out))
                have := congrArg (fun l => l.drop 1) e1
                simpa [List.drop_drop, Nat.add_comm] using this
              have HREST := hid hrest
              have HKL : Hid (k + 1 ≤ (holesG 0 0 u).length) := hid (by have h1 := (List.getElem?_eq_some_iff.1 hv).1; rw [holesV, List.length_map] at h1; exact h1)
              clear hv hJ1 hrest
              refine (wpIn_wide (n := 1)).1 ?_
              gi_wp2
              refine hR.mono ?_
              rintro e W3 ⟨S3, kk, gg, ⟨rfl, hJ3⟩ | ⟨rfl, hJ3⟩⟩
              · have hzB := HB2.out.size
                have hbs2 := (HB2.out.block _ (heap_in HBS.out)).trans HBS.out
                have hbsl := heap_in HBS.out
                have hnB : ¬ (S1 Bs ∨ Bs = l) := fun h => h.elim (fun h => (HS1.out Bs h).2.2.1 rfl) (by omega)
                have hnU : ¬ (S1 Ub ∨ Ub = l) := fun h => h.elim (fun h => (HS1.out Ub h).2.2.2 rfl) (by omega)
                have hbs3 := (kk.block Bs (heap_in hbs2) hnB).trans hbs2
                have hru3 := (HRU.out.kept HB2.out).kptN kk hnU
                have hz3 := kk.size
                have hN3 : ∀ b, S3 b → b < W3.heap.size ∧ b ≠ l ∧ b ≠ Bs ∧ b ≠ Ub := by
                  intro b hb
                  obtain ⟨g1, g2⟩ := gg b hb
                  refine ⟨g1, ?_⟩
                  rcases g2 with g2 | g2
                  · exact (HS1.out b g2).2
                  · omega
                have HN3 := hid hN3; have HBS3 := hid hbs3; have HRU3 := hid hru3; have HJ3 := hid hJ3
                clear hbs2 hnB hnU hbs3 hru3 hN3 kk gg hJ3 hR hy
                gi_wp2_with fail
                go_wp2_with fail
                go_roundw
                case rel => exact ⟨k + 1, n + m + 1, S3, HKL.out, by omega, by go_num, HREST.out, HJ3.out, HN3.out, by omega, HBS3.out, HRU3.out⟩
                case measure => simp [intOf]; omega
              · clear kk gg hR hy
                gi_wp2_with fail
                go_wp2
                refine bodyPost_ret (results_none rfl _ _ _) rfl ?_
                exact ⟨⟨_, rfl⟩, S3, .inr hJ3⟩
            · have hlt2 : ¬ n + m < N := by rw [HN.out]; omega
              clear ru2 h
              go_upto_region 8 with fail
              have hJ1 := HJ.out k S1 wo wr HJS.out (Kpt.of_below HB2.out)
              have hv : (holesV u)[k]? = some (.agg #[.int .i64 0, .int .i64 (n : Int), .int .i64 (m : Int)]) := by
                have e1 := HH.out.trans (HG.out.trans (holes_end hm0 HE.out))
                have e2 : (holesG 0 0 u)[k]? = some (n + m - m, m) := by
                  have := congrArg (fun l => l[0]?) e1
                  simpa [List.getElem?_drop] using this
                rw [holesV, List.getElem?_map, e2, Nat.add_sub_cancel]
                rfl
              obtain ⟨fn, tmps, assign, body, hy, hR⟩ := HY.out k _ S1 wr hv hJ1 (fun b hb => Nat.lt_of_lt_of_le (HS1.out b hb).1 HB2.out.size) (Nat.le_trans hsz HB2.out.size)
              have hrest : (holesG 0 0 u).drop (k + 1) = holesG (n + m + 1) 0 (u.drop (n + m + 1)) := by
                have e1 := HH.out.trans (HG.out.trans (holes_end hm0 HE.out))
                have := congrArg (fun l => l.drop 1) e1
                simpa [List.drop_drop, Nat.add_comm] using this
              have HREST := hid hrest
              have HKL : Hid (k + 1 ≤ (holesG 0 0 u).length) := hid (by have h1 := (List.getElem?_eq_some_iff.1 hv).1; rw [holesV, List.length_map] at h1; exact h1)
              clear hv hJ1 hrest
              refine (wpIn_wide (n := 1)).1 ?_
              gi_wp2
              refine hR.mono ?_
              rintro e W3 ⟨S3, kk, gg, ⟨rfl, hJ3⟩ | ⟨rfl, hJ3⟩⟩
              · have hzB := HB2.out.size
                have hbs2 := (HB2.out.block _ (heap_in HBS.out)).trans HBS.out
                have hbsl := heap_in HBS.out
                have hnB : ¬ (S1 Bs ∨ Bs = l) := fun h => h.elim (fun h => (HS1.out Bs h).2.2.1 rfl) (by omega)
                have hnU : ¬ (S1 Ub ∨ Ub = l) := fun h => h.elim (fun h => (HS1.out Ub h).2.2.2 rfl) (by omega)
                have hbs3 := (kk.block Bs (heap_in hbs2) hnB).trans hbs2
                have hru3 := (HRU.out.kept HB2.out).kptN kk hnU
                have hz3 := kk.size
                have hN3 : ∀ b, S3 b → b < W3.heap.size ∧ b ≠ l ∧ b ≠ Bs ∧ b ≠ Ub := by
                  intro b hb
                  obtain ⟨g1, g2⟩ := gg b hb
                  refine ⟨g1, ?_⟩
                  rcases g2 with g2 | g2
                  · exact (HS1.out b g2).2
                  · omega
                have HN3 := hid hN3; have HBS3 := hid hbs3; have HRU3 := hid hru3; have HJ3 := hid hJ3
                clear hbs2 hnB hnU hbs3 hru3 hN3 kk gg hJ3 hR hy
                gi_wp2_with fail
                go_wp2_with fail
                go_roundw
                case rel => exact ⟨k + 1, n + m + 1, S3, HKL.out, by omega, by go_num, HREST.out, HJ3.out, HN3.out, by omega, HBS3.out, HRU3.out⟩
                case measure => simp [intOf]; omega
              · clear kk gg hR hy
                gi_wp2_with fail
                go_wp2
                refine bodyPost_ret (results_none rfl _ _ _) rfl ?_
                exact ⟨⟨_, rfl⟩, S3, .inr hJ3⟩
    · have hNn : N ≤ n := by omega
      have hlen : k = (holesV u).length := by
        have hdn : u.drop n = [] := List.drop_of_length_le (by rw [← HN.out]; exact hNn)
        rw [hdn] at hH
        have h2 : holesG n 0 [] = [] := rfl
        rw [h2] at hH
        have h3 := congrArg List.length hH
        rw [List.length_drop] at h3
        simp at h3
        rw [holesV, List.length_map]
        omega
      rw [hlen] at hJs
      have HJS := hid hJs
      have hNI : ¬ (n : Int) < (N : Int) := by omega
      clear hlen hJs hH hkl
      go_wp2
      go_end0
      exact ⟨⟨_, rfl⟩, S1, .inl HJS.out⟩
end Go.Proofs.Ytahlhdhljjpeoaa
