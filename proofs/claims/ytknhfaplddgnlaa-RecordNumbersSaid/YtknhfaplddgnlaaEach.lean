/- A loop over a function: its law. The function that is ranged over hands out the values of a list, one by one; between two rounds an invariant holds; a set tells which blocks are the rounds' own. -/
import Derived.Test.YtknhfaplddgnlaaRound
import Derived.RangeFuncLeaves
namespace Go.Proofs.Ytknhfaplddgnlaa
open Go.RowKit
set_option linter.unusedVariables false
set_option linter.unusedSimpArgs false

/-- What a round does to the set of blocks that are the rounds' own. -/
def Grw (S : Nat → Prop) (W : World) (S' : Nat → Prop) (W' : World) : Prop := ∀ b, S' b → b < W'.heap.size ∧ (S b ∨ W.heap.size ≤ b)
/-- The function gf (with what it has captured) hands out vs; it reads the blocks 'own'. -/
def Iter (P : Program) (gf : Nat) (lb : Array Value) (own : Nat → Prop) (vs : List Value) (w : World) : Prop :=
  ∀ (l : Nat) (J : Nat → (Nat → Prop) → World → Prop) (Jx : (Nat → Prop) → World → Prop) (S : Nat → Prop) (W : World),
    Below w.heap.size w W → (w.heap.size ≤ l ∧ l < W.heap.size) → (∀ b, S b → b < W.heap.size ∧ b ≠ l ∧ ¬ own b) →
    (∀ k S A A', J k S A → Kpt (fun b => W.heap.size ≤ b ∧ ¬ S b) A A' → J k S A') →
    (∀ S A A', Jx S A → Kpt (fun b => W.heap.size ≤ b ∧ ¬ S b) A A' → Jx S A') →
    (∀ (k : Nat) (v : Value) (S : Nat → Prop) (A : World), vs[k]? = some v → J k S A → (∀ b, S b → b < A.heap.size) → W.heap.size ≤ A.heap.size →
      YieldAt Fence.wide 0 P l #[v] A fun e A' => ∃ S', Kpt (fun b => S b ∨ b = l) A A' ∧ Grw S A S' A' ∧ ((e = .returned (.bool true) ∧ J (k + 1) S' A') ∨ (e = .returned (.bool false) ∧ Jx S' A'))) →
    J 0 S W →
    Calls P gf (#[.func (.yield l) #[] #[]] ++ lb) W fun e W' => (∃ v, e = .returned v) ∧ ∃ S', J vs.length S' W' ∨ Jx S' W'
/-- How a round's body may be left. -/
def roundP (I : Nat → (Nat → Prop) → World → Prop) (Ix : Code → (Nat → Prop) → World → Prop) (k : Nat) (S : Nat → Prop) (W : World) : Exit → Act → World → Prop
  | .normal, _, W' => ∃ S', Kpt S W W' ∧ Grw S W S' W' ∧ I (k + 1) S' W'
  | .ret, _, W' => ∃ S', Kpt S W W' ∧ Grw S W S' W' ∧ Ix .ret S' W'
  | .exit id, _, W' => ∃ S', Kpt S W W' ∧ Grw S W S' W' ∧ Ix (.exit id) S' W'
  | _, _, _ => False
def markOf (D : Nat) : Deferred := { target := .collected D, args := #[] }
theorem Kpt.putObj (w : World) (r : Nat) (o : Obj) : Kpt (fun b => b = r) w (w.putObj r o) := ⟨rfl, rfl, rfl, by simp, fun j _ h => World.putObj_heap_other h⟩
theorem wp_each {P : Program} {g : Operand} {t : Tmp} {assign body : Code} {Q : Exit → Act → World → Prop} {a : Act} {w : World} {gf : Nat} {lb : Array Value}
    (hg : a.eval g = .func (.func gf) #[] lb) (eg : ∀ args w, (callFunc gf args).run P w = .ok (.enter gf args) w)
    (own : Nat → Prop) (vs : List Value) (hit : Iter P gf lb own vs w) (hown : ∀ b, own b → b < w.heap.size)
    (I : Nat → (Nat → Prop) → World → Prop) (Ix : Code → (Nat → Prop) → World → Prop) (S0 : Nat → Prop) (hS0 : ∀ b, S0 b → b < w.heap.size ∧ ¬ own b)
    (hI : ∀ k S A A', I k S A → Kpt (fun b => w.heap.size ≤ b ∧ ¬ S b) A A' → I k S A')
    (hIx : ∀ c S A A', Ix c S A → Kpt (fun b => w.heap.size ≤ b ∧ ¬ S b) A A' → Ix c S A') (h0 : I 0 S0 w) (act : Value → Act)
    (hassign : ∀ (l : Nat) (v : Value) (W : World) (K : Act → World → Prop), K (act v) W → assign.wpIn (Fence.wide.inRound l) 0 P (Exit.then K (fun _ _ _ => False)) { tmps := a.tmps.setIfInBounds t v, defers := [] } W)
    (hbody : ∀ (l k : Nat) (v : Value) (S : Nat → Prop) (W : World), vs[k]? = some v → I k S W → (∀ b, S b → b < W.heap.size) → w.heap.size < W.heap.size → body.wpIn (Fence.wide.inRound l) 0 P (roundP I Ix k S W) (act v) W)
    (hdone : ∀ (S : Nat → Prop) (W : World), I vs.length S W → W.heap[w.heap.size]? = some (.deferred (some [])) → ¬ S w.heap.size → Q .normal { a with defers := markOf w.heap.size :: a.defers } W)
    (hstop : ∀ (c : Code) (S : Nat → Prop) (W : World), Ix c S W → W.heap[w.heap.size]? = some (.deferred (some [])) → ¬ S w.heap.size → c.wp P Q { a with defers := markOf w.heap.size :: a.defers } W) :
    (Code.rangeFunc g #[t] assign body).wp P Q a w := by
  refine (wpIn_wide (n := 0)).1 (wpIn_rangeFunc ?_)
  intro fn _
  obtain ⟨rec, hrec⟩ : ∃ rec : LoopState → Option Code → Loop, rec = fun st pe => { state := st, pending := pe, fn, tmps := a.tmps, params := #[t], assign, body, defers := w.heap.size } := ⟨_, rfl⟩
  obtain ⟨L, hL⟩ : ∃ L, L = w.heap.size + 1 := ⟨_, rfl⟩
  obtain ⟨W1, hW1⟩ : ∃ W1, (w.alloc (.deferred (some []))).alloc (.loop (rec .ready none)) = W1 := ⟨_, rfl⟩
  have hL1 : W1.heap[L]? = some (.loop (rec .ready none)) := by
    rw [← hW1, hL]
    have := World.alloc_heap_new (w.alloc (.deferred (some []))) (.loop (rec .ready none))
    rwa [World.size_alloc] at this
  have hD1 : W1.heap[w.heap.size]? = some (.deferred (some [])) := by
    rw [← hW1]
    exact (Below.heap_alloc _ _ _ (by simp)).trans (World.alloc_heap_new w _)
  have hb1 : Below w.heap.size w W1 := by
    rw [← hW1]
    exact ((Below.refl _ w).alloc (Nat.le_refl _) _).alloc (by simp) _
  have hs1 : W1.heap.size = w.heap.size + 2 := by rw [← hW1]; simp
  have hl := run_enterLoop_outer (P := P) (w := w) fn a.tmps #[t] assign body
  refine ⟨L, [markOf w.heap.size], W1, { target := .fn (.func gf) lb, args := #[.func (.yield L) #[] #[]] }, W1, gf, #[.func (.yield L) #[] #[]] ++ lb, W1, ?_, ?_, fun _ _ => trivial, ?_, fun hd => (by simp [Fence.wide] at hd), ?_⟩
  · rw [← hW1, hrec, hL]
    exact hl
  · simp only [resolve, hg]
    simp [go_sem]
  · simp [invoke, go_sem, eg]
  · refine callsIn_wide.2 ?_
    refine (hit L (fun k S W => I k S W ∧ W.heap[L]? = some (.loop (rec .ready none)) ∧ W.heap[w.heap.size]? = some (.deferred (some [])) ∧ ¬ S L ∧ ¬ S w.heap.size)
      (fun S W => ∃ c, Ix c S W ∧ W.heap[L]? = some (.loop (rec .done (some c))) ∧ W.heap[w.heap.size]? = some (.deferred (some [])) ∧ ¬ S L ∧ ¬ S w.heap.size) S0 W1 hb1 ⟨by omega, by omega⟩ ?_ ?_ ?_ ?_ ⟨?_, hL1, hD1, ?_, ?_⟩).mono ?_
    · intro b hb
      have := hS0 b hb
      exact ⟨by omega, by omega, this.2⟩
    · rintro k S A A' ⟨h1, h2, h3, h4, h5⟩ hk
      have hlt := heap_in h2
      exact ⟨hI k S A A' h1 (hk.mono fun b hb => ⟨by omega, hb.2⟩), (hk.block L hlt (fun h => by omega)).trans h2, (hk.block _ (heap_in h3) (fun h => by omega)).trans h3, h4, h5⟩
    · rintro S A A' ⟨c, h1, h2, h3, h4, h5⟩ hk
      have hlt := heap_in h2
      exact ⟨c, hIx c S A A' h1 (hk.mono fun b hb => ⟨by omega, hb.2⟩), (hk.block L hlt (fun h => by omega)).trans h2, (hk.block _ (heap_in h3) (fun h => by omega)).trans h3, h4, h5⟩
    · rintro k v S A hv ⟨h1, h2, h3, h4, h5⟩ hS hA
      have hy := run_yield (P := P) (args := #[v]) h2 (by rw [hrec]; rfl)
      rw [hrec] at hy
      refine ⟨fn, _, assign, body, hy, roundIn_of_wpIn trivial ?_⟩
      have ez : (#[t].zip #[v]).foldl (fun (tmps : Array Value) (x : Tmp × Value) => tmps.setIfInBounds x.1 x.2) a.tmps = a.tmps.setIfInBounds t v := by simp
      rw [ez]
      refine hassign L v A _ ⟨_, run_beginRound h2 (by rw [hrec]), ?_⟩
      clear hy
      have hlt : L < A.heap.size := heap_in h2
      have k1 := Kpt.putObj A L (.loop { rec .ready none with state := .busy })
      have e1 : (A.putObj L (.loop { rec .ready none with state := .busy })).heap[L]? = some (.loop { rec .ready none with state := .busy }) := World.putObj_heap_same hlt
      have e2 : (A.putObj L (.loop { rec .ready none with state := .busy })).heap[w.heap.size]? = some (.deferred (some [])) := (World.putObj_heap_other (by omega)).trans h3
      have hi1 := hI k S _ _ h1 (k1.mono fun b hb => by subst hb; exact ⟨by omega, h4⟩)
      have z1 : (A.putObj L (.loop { rec .ready none with state := .busy })).heap.size = A.heap.size := by simp
      revert k1 e1 e2 hi1 z1
      generalize A.putObj L (.loop { rec .ready none with state := .busy }) = A1
      intro k1 e1 e2 hi1 z1
      refine wpIn_mono (hbody L k v S A1 hv hi1 (fun b hb => by rw [z1]; exact hS b hb) (by omega)) ?_
      -- at the round's end
      have fin : ∀ (jump : Option Code) (S' : Nat → Prop) (A2 : World), Kpt S A1 A2 → Grw S A1 S' A2 → ∃ A3, (Instr.endRound L jump).run P A2 = .ok (.bool jump.isNone) A3 ∧ Kpt (fun b => S b ∨ b = L) A A3 ∧ Grw S A S' A3 ∧ Kpt (fun b => b = L) A2 A3 ∧
          A3.heap[L]? = some (.loop (rec (if jump.isNone then .ready else .done) jump)) ∧ A3.heap[w.heap.size]? = some (.deferred (some [])) ∧ ¬ S' L ∧ ¬ S' w.heap.size := by
        intro jump S' A2 kk gg
        have e3 : A2.heap[L]? = some (.loop { rec .ready none with state := .busy }) := (kk.block L (heap_in e1) h4).trans e1
        have e4 : A2.heap[w.heap.size]? = some (.deferred (some [])) := (kk.block _ (heap_in e2) h5).trans e2
        have hr := run_endRound (P := P) jump e3
        rw [hrec] at hr ⊢
        have k3 := Kpt.putObj A2 L (.loop { rec .ready none with state := if jump.isNone then .ready else .done, pending := jump })
        rw [hrec] at k3
        refine ⟨_, hr, (k1.mono fun b hb => .inr hb).trans ((kk.mono fun b hb => .inl hb).trans (k3.mono fun b hb => .inr hb)), ?_, k3, World.putObj_heap_same (heap_in e3), (World.putObj_heap_other (by omega)).trans e4, ?_, ?_⟩
        · intro b hb
          have := gg b hb
          rw [z1] at this
          simpa using this
        · intro hs
          have := gg _ hs
          rcases this.2 with h | h
          · exact h4 h
          · omega
        · intro hs
          have := gg _ hs
          rcases this.2 with h | h
          · exact h5 h
          · omega
      rintro e a3 A2 hp
      cases e with
      | normal =>
        obtain ⟨S', kk, gg, hi⟩ := hp
        obtain ⟨A3, r1, r2, r3, r4, r5, r6, r7, r8⟩ := fin none S' A2 kk gg
        exact ⟨_, A3, r1, S', r2, r3, .inl ⟨rfl, hI _ _ _ _ hi (r4.mono fun b hb => by subst hb; exact ⟨by omega, r7⟩), r5, r6, r7, r8⟩⟩
      | ret =>
        obtain ⟨S', kk, gg, hi⟩ := hp
        obtain ⟨A3, r1, r2, r3, r4, r5, r6, r7, r8⟩ := fin (some .ret) S' A2 kk gg
        exact ⟨_, A3, r1, S', r2, r3, .inr ⟨rfl, _, hIx _ _ _ _ hi (r4.mono fun b hb => by subst hb; exact ⟨by omega, r7⟩), r5, r6, r7, r8⟩⟩
      | exit id =>
        obtain ⟨S', kk, gg, hi⟩ := hp
        obtain ⟨A3, r1, r2, r3, r4, r5, r6, r7, r8⟩ := fin (some (.exit id)) S' A2 kk gg
        exact ⟨_, A3, r1, S', r2, r3, .inr ⟨rfl, _, hIx _ _ _ _ hi (r4.mono fun b hb => by subst hb; exact ⟨by omega, r7⟩), r5, r6, r7, r8⟩⟩
      | goto t => exact hp.elim
      | panic ch => exact hp.elim
      | outgrown => exact hp.elim
    · exact hI 0 S0 _ _ h0 ((Kpt.of_below (S := fun _ => False) hb1).mono fun b hb => hb.elim)
    · intro h; have := hS0 _ h; omega
    · intro h; have := hS0 _ h; omega
    · rintro e W2 ⟨⟨v, rfl⟩, S', ⟨hi, e1, e2, n1, n2⟩ | ⟨c, hi, e1, e2, n1, n2⟩⟩
      · have k3 := Kpt.putObj W2 L (.loop { rec .ready none with state := .exhausted })
        refine ⟨none, _, by have := run_endLoop (P := P) e1 (by rw [hrec]; simp); rw [hrec] at this; exact this, ?_⟩
        rw [hrec] at k3
        exact hdone S' _ (hI _ _ _ _ hi (k3.mono fun b hb => by subst hb; exact ⟨by omega, n1⟩)) ((World.putObj_heap_other (by omega)).trans e2) n2
      · have k3 := Kpt.putObj W2 L (.loop { rec .done (some c) with state := .exhausted })
        refine ⟨some c, _, by have := run_endLoop (P := P) e1 (by rw [hrec]; simp); rw [hrec] at this; exact this, ?_⟩
        rw [hrec] at k3
        exact wpIn_wide.2 (hstop c S' _ (hIx _ _ _ _ hi (k3.mono fun b hb => by subst hb; exact ⟨by omega, n1⟩)) ((World.putObj_heap_other (by omega)).trans e2) n2)
theorem Kpt.stc {S : Nat → Prop} {v w : World} (h : Kpt S v w) {p : Addr} (hp : S p.block) (u : Value) : Kpt S v (w.setCell p u) :=
  ⟨h.os, h.tape, h.output, by simpa [World.setCell] using h.size, fun j hj hs => (heap_setCell_other w p j u (fun e => hs (e ▸ hp))).trans (h.block j hj hs)⟩
theorem belowK {B : Nat} {S : Nat → Prop} {w W W' : World} (h : Below B w W) (k : Kpt S W W') (hS : ∀ b, S b → B ≤ b) (hB : B ≤ W.heap.size) : Below B w W' :=
  ⟨k.os.trans h.os, k.tape.trans h.tape, k.output.trans h.output, Nat.le_trans h.size k.size, fun j hj => (k.block j (by omega) (fun hs => by have := hS j hs; omega)).trans (h.block j hj)⟩
theorem Kpt.up {S T : Nat → Prop} {w A A' : World} (h : Kpt S w A) (k : Kpt T A A') (ht : ∀ b, T b → S b ∨ w.heap.size ≤ b) : Kpt S w A' :=
  ⟨k.os.trans h.os, k.tape.trans h.tape, k.output.trans h.output, Nat.le_trans h.size k.size, fun j hj hs => (k.block j (Nat.lt_of_lt_of_le hj h.size) (fun e => (ht j e).elim hs (fun h => by omega))).trans (h.block j hj hs)⟩
theorem kpt_below0 (w : World) : Below w.heap.size w w.drew := ⟨rfl, rfl, rfl, Nat.le_refl _, fun _ _ => rfl⟩
/-- The block of an address. -/
def blkOf (a : Option Addr) (b : Nat) : Prop := a.map (·.block) = some b
theorem OwnB.kptA {S : Nat → Prop} {base c : Nat} {w w' : World} {a : Option Addr} {l : List UInt8} (h : OwnB base w a c l) (k : Kpt S w w') (hs : ∀ b, blkOf a b → ¬ S b) : OwnB base w' a c l := by
  refine ⟨h.1, ?_⟩
  rcases h.2 with h0 | ⟨g', cap, cur, hv, hb, hg, r⟩
  · exact .inl h0
  · simp only [Value.slice.injEq, true_and] at hv
    obtain ⟨rfl, rfl⟩ := hv
    exact .inr ⟨g', c, cur, rfl, hb, (k.block g' (heap_in hg) (hs g' rfl)).trans hg, r⟩
theorem OwnB.blk {base c : Nat} {w : World} {a : Option Addr} {l : List UInt8} (h : OwnB base w a c l) {b : Nat} (hb : blkOf a b) : base ≤ b ∧ b < w.heap.size := by
  unfold blkOf at hb
  rcases h.2 with ⟨hv, h0⟩ | ⟨g', cap, cur, hv, hbb, hg, r⟩
  · simp only [Value.slice.injEq] at hv
    obtain ⟨rfl, _⟩ := hv
    simp at hb
  · simp only [Value.slice.injEq, true_and] at hv
    obtain ⟨rfl, rfl⟩ := hv
    simp at hb
    subst hb
    exact ⟨hbb, heap_in hg⟩
/-- A function that holds such a loop. -/
theorem calls_marks {P : Program} {f : FuncId} {fn : Func} {c : Code} {args : Array Value} {w : World} {R : Ending → World → Prop} (hf : P.funcs[f]? = some fn) (hb : fn.body = some c)
    (h : c.wp P (bodyPostM Fence.wide 0 P fn R) { tmps := args ++ Array.replicate (fn.ntmps - args.size) undef, defers := [] } w) : Calls P f args w R :=
  callsIn_wide.1 (callsIn_of_wp_marks (F := Fence.wide) (n := 0) hf hb trivial (wpIn_wide.2 h) rfl)
theorem leave1 {P : Program} {fn : Func} {R : Ending → World → Prop} {e : Exit} {a : Act} {w : World} {D : Nat} {v : Value} (he : e = .ret ∨ e = .normal) (hd : a.defers = [markOf D]) (h : w.heap[D]? = some (.deferred (some [])))
    (hv : (results fn a.tmps).run P (w.putObj D (.deferred none)) = .ok v (w.putObj D (.deferred none))) (hR : R (.returned v) (w.putObj D (.deferred none))) : bodyPostM Fence.wide 0 P fn R e a w := by
  have : LeavesInM Fence.wide 0 P fn a.tmps R a.defers .returning w := by
    rw [hd]
    exact ⟨by simp, .inl ⟨D, _, rfl, run_takeDeferred h, v, hv, hR⟩⟩
  rcases he with rfl | rfl <;> exact this
theorem leave0 {P : Program} {fn : Func} {R : Ending → World → Prop} {e : Exit} {a : Act} {w : World} {v : Value} (he : e = .ret ∨ e = .normal) (hd : a.defers = [])
    (hv : (results fn a.tmps).run P w = .ok v w) (hR : R (.returned v) w) : bodyPostM Fence.wide 0 P fn R e a w := by
  have : LeavesInM Fence.wide 0 P fn a.tmps R a.defers .returning w := by
    rw [hd]
    exact ⟨v, hv, hR⟩
  rcases he with rfl | rfl <;> exact this
theorem below_putObj {B : Nat} {w W : World} (h : Below B w W) {D : Nat} (hD : B ≤ D) (o : Obj) : Below B w (W.putObj D o) :=
  ⟨h.os, h.tape, h.output, by simpa using h.size, fun k hk => (World.putObj_heap_other (by omega)).trans (h.block k hk)⟩
theorem Kpt.put {S : Nat → Prop} {w W : World} (h : Kpt S w W) {D : Nat} (hD : S D ∨ w.heap.size ≤ D) (o : Obj) : Kpt S w (W.putObj D o) :=
  ⟨h.os, h.tape, h.output, by simpa using h.size, fun k hk hs => (World.putObj_heap_other (fun e => by subst e; rcases hD with h | h; exact hs h; omega)).trans (h.block k hk hs)⟩
end Go.Proofs.Ytknhfaplddgnlaa
