/- Texts joined: Each2, BtI. -/
import Derived.RangeFuncLeaves
import Derived.Test.YtahlhdhljjpeoaaGBitsErrors12
/- A loop over a function whose round begins with an allocation: its law (as XEach's wp_each). -/
namespace Go.Proofs.Ytahlhdhljjpeoaa
open Go.RowKit
set_option linter.unusedVariables false
set_option linter.unusedSimpArgs false

theorem wp_each2 {P : Program} {g : Operand} {t : Tmp} {assign body : Code} {Q : Exit → Act → World → Prop} {a : Act} {w : World} {gf : Nat} {lb : Array Value}
    (hg : a.eval g = .func (.func gf) #[] lb) (eg : ∀ args w, (callFunc gf args).run P w = .ok (.enter gf args) w)
    (own : Nat → Prop) (vs : List Value) (hit : Iter P gf lb own vs w) (hown : ∀ b, own b → b < w.heap.size)
    (I : Nat → (Nat → Prop) → World → Prop) (Ix : Code → (Nat → Prop) → World → Prop) (S0 : Nat → Prop) (hS0 : ∀ b, S0 b → b < w.heap.size ∧ ¬ own b)
    (hI : ∀ k S A A', I k S A → Kpt (fun b => w.heap.size ≤ b ∧ ¬ S b) A A' → I k S A')
    (hIx : ∀ c S A A', Ix c S A → Kpt (fun b => w.heap.size ≤ b ∧ ¬ S b) A A' → Ix c S A') (h0 : I 0 S0 w) {β : Type} (f : β → Value) (hs : List β) (hvs : vs = hs.map f) (Asg : β → World → World → Prop) (hAsg : ∀ h W W', Asg h W W' → Below W.heap.size W W') (act : β → World → Act)
    (hassign : ∀ (l : Nat) (h : β) (W : World) (K : Act → World → Prop), (∀ W', Asg h W W' → K (act h W) W') → assign.wpIn (Fence.wide.inRound l) 0 P (Exit.then K (fun _ _ _ => False)) { tmps := a.tmps.setIfInBounds t (f h), defers := [] } W)
    (hbody : ∀ (l k : Nat) (h : β) (S : Nat → Prop) (W0 W1 W : World), hs[k]? = some h → Asg h W0 W1 → Kpt (fun b => b = l) W1 W → l < W0.heap.size → I k S W → (∀ b, S b → b < W0.heap.size) → w.heap.size < W.heap.size → body.wpIn (Fence.wide.inRound l) 0 P (roundP I Ix k S W) (act h W0) W)
    (hdone : ∀ (S : Nat → Prop) (W : World), I vs.length S W → W.heap[w.heap.size]? = some (.deferred (some [])) → ¬ S w.heap.size → Q .normal { a with defers := markOf w.heap.size :: a.defers } W)
    (hstop : ∀ (c : Code) (S : Nat → Prop) (W : World), Ix c S W → W.heap[w.heap.size]? = some (.deferred (some [])) → ¬ S w.heap.size → c.wp P Q { a with defers := markOf w.heap.size :: a.defers } W) :
    (Code.rangeFunc g #[t] assign body).wp P Q a w := by
  refine (wpIn_wide (n := 0)).1 (wpIn_rangeFunc ?_)
  intro fn _
  obtain ⟨rec, hrec⟩ : ∃ rec : LoopState → Option Code → Loop, rec = fun st pe => { state := st, pending := pe, fn, tmps := a.tmps, params := #[t], assign, body, defers := w.heap.size } := ⟨_, rfl⟩
  obtain ⟨L, hL⟩ : ∃ L, L = w.heap.size + 1 := ⟨_, rfl⟩
  obtain ⟨W1, hW1⟩ : ∃ W1, (w.alloc (.deferred (some []))).alloc (.loop (rec .ready none)) = W1 := ⟨_, rfl⟩
  have hL1 : W1.heap[L]? = some (.loop (rec .ready none)) := by
    rw [← hW1, hL]
    have := World.alloc_heap_new (w.alloc (.deferred (some []))) (.loop (rec .ready none))
    rwa [World.size_alloc] at this
  have hD1 : W1.heap[w.heap.size]? = some (.deferred (some [])) := by
    rw [← hW1]
    exact (Below.heap_alloc _ _ _ (by simp)).trans (World.alloc_heap_new w _)
  have hb1 : Below w.heap.size w W1 := by
    rw [← hW1]
    exact ((Below.refl _ w).alloc (Nat.le_refl _) _).alloc (by simp) _
  have hs1 : W1.heap.size = w.heap.size + 2 := by rw [← hW1]; simp
  have hl := run_enterLoop_outer (P := P) (w := w) fn a.tmps #[t] assign body
  refine ⟨L, [markOf w.heap.size], W1, { target := .fn (.func gf) lb, args := #[.func (.yield L) #[] #[]] }, W1, gf, #[.func (.yield L) #[] #[]] ++ lb, W1, ?_, ?_, fun _ _ => trivial, ?_, fun hd => (by simp [Fence.wide] at hd), ?_⟩
  · rw [← hW1, hrec, hL]
    exact hl
  · simp only [resolve, hg]
    simp [go_sem]
  · simp [invoke, go_sem, eg]
  · refine callsIn_wide.2 ?_
    refine (hit L (fun k S W => I k S W ∧ W.heap[L]? = some (.loop (rec .ready none)) ∧ W.heap[w.heap.size]? = some (.deferred (some [])) ∧ ¬ S L ∧ ¬ S w.heap.size)
      (fun S W => ∃ c, Ix c S W ∧ W.heap[L]? = some (.loop (rec .done (some c))) ∧ W.heap[w.heap.size]? = some (.deferred (some [])) ∧ ¬ S L ∧ ¬ S w.heap.size) S0 W1 hb1 ⟨by omega, by omega⟩ ?_ ?_ ?_ ?_ ⟨?_, hL1, hD1, ?_, ?_⟩).mono ?_
    · intro b hb
      have := hS0 b hb
      exact ⟨by omega, by omega, this.2⟩
    · rintro k S A A' ⟨h1, h2, h3, h4, h5⟩ hk
      have hlt := heap_in h2
      exact ⟨hI k S A A' h1 (hk.mono fun b hb => ⟨by omega, hb.2⟩), (hk.block L hlt (fun h => by omega)).trans h2, (hk.block _ (heap_in h3) (fun h => by omega)).trans h3, h4, h5⟩
    · rintro S A A' ⟨c, h1, h2, h3, h4, h5⟩ hk
      have hlt := heap_in h2
      exact ⟨c, hIx c S A A' h1 (hk.mono fun b hb => ⟨by omega, hb.2⟩), (hk.block L hlt (fun h => by omega)).trans h2, (hk.block _ (heap_in h3) (fun h => by omega)).trans h3, h4, h5⟩
    · rintro k v S A0 hv ⟨h1, h2, h3, h4, h5⟩ hS hA
      have hy := run_yield (P := P) (args := #[v]) h2 (by rw [hrec]; rfl)
      rw [hrec] at hy
      refine ⟨fn, _, assign, body, hy, roundIn_of_wpIn trivial ?_⟩
      have ez : (#[t].zip #[v]).foldl (fun (tmps : Array Value) (x : Tmp × Value) => tmps.setIfInBounds x.1 x.2) a.tmps = a.tmps.setIfInBounds t v := by simp
      rw [ez]
      obtain ⟨hh, hhk, hhf⟩ : ∃ hh, hs[k]? = some hh ∧ f hh = v := by
        rw [hvs, List.getElem?_map] at hv
        cases hx : hs[k]? with
        | none => rw [hx] at hv; cases hv
        | some hh => rw [hx] at hv; exact ⟨hh, rfl, Option.some.inj hv⟩
      rw [← hhf]
      refine hassign L hh A0 _ fun A hasg => ?_
      have hba := hAsg _ _ _ hasg
      have hl0 := heap_in h2
      have h1 := hI k S _ _ h1 ((Kpt.of_below (S := fun b => w.heap.size ≤ b ∧ ¬ S b) hba))
      have h2 := (hba.block L (heap_in h2)).trans h2
      have h3 := (hba.block _ (heap_in h3)).trans h3
      refine ⟨_, run_beginRound h2 (by rw [hrec]), ?_⟩
      clear hy
      have hA0 := hba.size
      have hS0A := hS
      have hS : ∀ b, S b → b < A.heap.size := fun b hb => Nat.lt_of_lt_of_le (hS b hb) hA0
      have hA := Nat.le_trans hA hA0
      have hlt : L < A.heap.size := heap_in h2
      have k1 := Kpt.putObj A L (.loop { rec .ready none with state := .busy })
      have e1 : (A.putObj L (.loop { rec .ready none with state := .busy })).heap[L]? = some (.loop { rec .ready none with state := .busy }) := World.putObj_heap_same hlt
      have e2 : (A.putObj L (.loop { rec .ready none with state := .busy })).heap[w.heap.size]? = some (.deferred (some [])) := (World.putObj_heap_other (by omega)).trans h3
      have hi1 := hI k S _ _ h1 (k1.mono fun b hb => by subst hb; exact ⟨by omega, h4⟩)
      have z1 : (A.putObj L (.loop { rec .ready none with state := .busy })).heap.size = A.heap.size := by simp
      revert k1 e1 e2 hi1 z1
      generalize A.putObj L (.loop { rec .ready none with state := .busy }) = A1
      intro k1 e1 e2 hi1 z1
      refine wpIn_mono (hbody L k hh S A0 A A1 hhk hasg k1 hl0 hi1 hS0A (by omega)) ?_
      -- at the round's end
      have fin : ∀ (jump : Option Code) (S' : Nat → Prop) (A2 : World), Kpt S A1 A2 → Grw S A1 S' A2 → ∃ A3, (Instr.endRound L jump).run P A2 = .ok (.bool jump.isNone) A3 ∧ Kpt (fun b => S b ∨ b = L) A0 A3 ∧ Grw S A0 S' A3 ∧ Kpt (fun b => b = L) A2 A3 ∧
          A3.heap[L]? = some (.loop (rec (if jump.isNone then .ready else .done) jump)) ∧ A3.heap[w.heap.size]? = some (.deferred (some [])) ∧ ¬ S' L ∧ ¬ S' w.heap.size := by
        intro jump S' A2 kk gg
        have e3 : A2.heap[L]? = some (.loop { rec .ready none with state := .busy }) := (kk.block L (heap_in e1) h4).trans e1
        have e4 : A2.heap[w.heap.size]? = some (.deferred (some [])) := (kk.block _ (heap_in e2) h5).trans e2
        have hr := run_endRound (P := P) jump e3
        rw [hrec] at hr ⊢
        have k3 := Kpt.putObj A2 L (.loop { rec .ready none with state := if jump.isNone then .ready else .done, pending := jump })
        rw [hrec] at k3
        refine ⟨_, hr, (Kpt.of_below hba).trans ((k1.mono fun b hb => .inr hb).trans ((kk.mono fun b hb => .inl hb).trans (k3.mono fun b hb => .inr hb))), ?_, k3, World.putObj_heap_same (heap_in e3), (World.putObj_heap_other (by omega)).trans e4, ?_, ?_⟩
        · intro b hb
          have := gg b hb
          rw [z1] at this
          exact ⟨by simpa using this.1, this.2.imp id (fun h => Nat.le_trans hA0 h)⟩
        · intro hs
          have := gg _ hs
          rcases this.2 with h | h
          · exact h4 h
          · omega
        · intro hs
          have := gg _ hs
          rcases this.2 with h | h
          · exact h5 h
          · omega
      rintro e a3 A2 hp
      cases e with
      | normal =>
        obtain ⟨S', kk, gg, hi⟩ := hp
        obtain ⟨A3, r1, r2, r3, r4, r5, r6, r7, r8⟩ := fin none S' A2 kk gg
        exact ⟨_, A3, r1, S', r2, r3, .inl ⟨rfl, hI _ _ _ _ hi (r4.mono fun b hb => by subst hb; exact ⟨by omega, r7⟩), r5, r6, r7, r8⟩⟩
      | ret =>
        obtain ⟨S', kk, gg, hi⟩ := hp
        obtain ⟨A3, r1, r2, r3, r4, r5, r6, r7, r8⟩ := fin (some .ret) S' A2 kk gg
        exact ⟨_, A3, r1, S', r2, r3, .inr ⟨rfl, _, hIx _ _ _ _ hi (r4.mono fun b hb => by subst hb; exact ⟨by omega, r7⟩), r5, r6, r7, r8⟩⟩
      | exit id =>
        obtain ⟨S', kk, gg, hi⟩ := hp
        obtain ⟨A3, r1, r2, r3, r4, r5, r6, r7, r8⟩ := fin (some (.exit id)) S' A2 kk gg
        exact ⟨_, A3, r1, S', r2, r3, .inr ⟨rfl, _, hIx _ _ _ _ hi (r4.mono fun b hb => by subst hb; exact ⟨by omega, r7⟩), r5, r6, r7, r8⟩⟩
      | goto t => exact hp.elim
      | panic ch => exact hp.elim
      | outgrown => exact hp.elim
    · exact hI 0 S0 _ _ h0 ((Kpt.of_below (S := fun _ => False) hb1).mono fun b hb => hb.elim)
    · intro h; have := hS0 _ h; omega
    · intro h; have := hS0 _ h; omega
    · rintro e W2 ⟨⟨v, rfl⟩, S', ⟨hi, e1, e2, n1, n2⟩ | ⟨c, hi, e1, e2, n1, n2⟩⟩
      · have k3 := Kpt.putObj W2 L (.loop { rec .ready none with state := .exhausted })
        refine ⟨none, _, by have := run_endLoop (P := P) e1 (by rw [hrec]; simp); rw [hrec] at this; exact this, ?_⟩
        rw [hrec] at k3
        exact hdone S' _ (hI _ _ _ _ hi (k3.mono fun b hb => by subst hb; exact ⟨by omega, n1⟩)) ((World.putObj_heap_other (by omega)).trans e2) n2
      · have k3 := Kpt.putObj W2 L (.loop { rec .done (some c) with state := .exhausted })
        refine ⟨some c, _, by have := run_endLoop (P := P) e1 (by rw [hrec]; simp); rw [hrec] at this; exact this, ?_⟩
        rw [hrec] at k3
        exact wpIn_wide.2 (hstop c S' _ (hIx _ _ _ _ hi (k3.mono fun b hb => by subst hb; exact ⟨by omega, n1⟩)) ((World.putObj_heap_other (by omega)).trans e2) n2)
end Go.Proofs.Ytahlhdhljjpeoaa

/- bits.best (printed by gen24f.py). -/
namespace Go.Proofs.Ytahlhdhljjpeoaa
open Go.RowKit Go.Shelf
attribute [local go_sem] Oper.semAt_some
set_option maxHeartbeats 3200000
set_option maxRecDepth 100000
set_option linter.unusedVariables false
set_option linter.unusedSimpArgs false

theorem holes_any (w : World) (a : Option Addr) (N c : Nat) :
    Calls Try.prog 99 #[.slice a N c] w fun e w' => e = .returned (.func (.func 116) #[] #[.pointer (some ⟨w.heap.size, 0, none⟩)]) ∧ w' = w.alloc (.cells #[.slice a N c] 42) := by
  have hmf : ∀ (fn : Fn) (first cap : Array Value) (w : World), (Instr.makeFunc fn first cap).run Try.prog w = .ok (.func fn first cap) w := fun _ _ _ _ => rfl
  go_enter Try.func99, Try.ntmps99
  go_wp2
  go_ret
  exact ⟨rfl, rfl⟩
/-- What best looks for, hole by hole. -/
def bestS (n : Nat) (p : (Nat × Nat) × (Nat × Nat)) (h : Nat × Nat) : (Nat × Nat) × (Nat × Nat) :=
  (if n ≤ h.2 ∧ (p.1.2 = 0 ∨ h.2 < p.1.2) then h else p.1, if p.2.2 < h.2 then h else p.2)
def bestF (n : Nat) (l : List (Nat × Nat)) : (Nat × Nat) × (Nat × Nat) := l.foldl (bestS n) ((0, 0), (0, 0))
def bestP (u : List Bool) (n : Nat) : Nat × Nat := if 0 < (bestF n (holesG 0 0 u)).1.2 then ((bestF n (holesG 0 0 u)).1.1, n) else (bestF n (holesG 0 0 u)).2
theorem bestF_snoc (n : Nat) (l : List (Nat × Nat)) (h : Nat × Nat) : bestF n (l ++ [h]) = bestS n (bestF n l) h := by simp [bestF]
def exC (h : Nat × Nat) : Array Value := #[.int .i64 0, .int .i64 (h.1 : Int), .int .i64 (h.2 : Int)]
def BSt (w : World) (b : Nat) : Prop := b = w.heap.size + 1 + 1 ∨ b = w.heap.size + 1 + 1 + 1
def BInv (w : World) (n : Nat) (hs : List (Nat × Nat)) (k : Nat) (S : Nat → Prop) (A : World) : Prop :=
  S = BSt w ∧ A.heap[w.heap.size]? = some (.cells #[.int .i64 (n : Int)] 3 (0, 0)) ∧ A.heap[w.heap.size + 1]? = some (.cells #[.int .i64 0, .int .i64 0, .int .i64 0] 24 (0, 0)) ∧
    A.heap[w.heap.size + 1 + 1]? = some (.cells (exC (bestF n (hs.take k)).1) 24 (0, 0)) ∧ A.heap[w.heap.size + 1 + 1 + 1]? = some (.cells (exC (bestF n (hs.take k)).2) 24 (0, 0)) ∧ Below w.heap.size w A
theorem BInv.step {w : World} {n : Nat} {hs : List (Nat × Nat)} {k : Nat} {S : Nat → Prop} {A A' : World} (h : BInv w n hs k S A) {x : Nat × Nat} (hx : hs[k]? = some x) (hk : Kpt (BSt w) A A')
    (h2 : A'.heap[w.heap.size + 1 + 1]? = some (.cells (exC (bestS n (bestF n (hs.take k)) x).1) 24 (0, 0))) (h3 : A'.heap[w.heap.size + 1 + 1 + 1]? = some (.cells (exC (bestS n (bestF n (hs.take k)) x).2) 24 (0, 0))) :
    ∃ S', Kpt S A A' ∧ Grw S A S' A' ∧ BInv w n hs (k + 1) S' A' := by
  obtain ⟨rfl, a0, a1, a2, a3, hb⟩ := h
  have e : hs.take (k + 1) = hs.take k ++ [x] := by rw [List.take_add_one, hx]; rfl
  refine ⟨BSt w, hk, fun b hb => ⟨?_, .inl hb⟩, rfl, (hk.block _ (heap_in a0) (by unfold BSt; omega)).trans a0, (hk.block _ (heap_in a1) (by unfold BSt; omega)).trans a1, ?_, ?_, ?_⟩
  · have h4 := heap_in h2
    have h5 := heap_in h3
    rcases hb with rfl | rfl
    · exact h4
    · exact h5
  · rw [e, bestF_snoc]; exact h2
  · rw [e, bestF_snoc]; exact h3
  · have h5 := heap_in a3
    exact ⟨hk.os.trans hb.os, hk.tape.trans hb.tape, hk.output.trans hb.output, Nat.le_trans hb.size hk.size, fun j hj => (hk.block j (by omega) (by unfold BSt; omega)).trans (hb.block j hj)⟩
theorem set3c {w : World} {g : Nat} {a b c : Value} {t : TypeId} (h : w.heap[g]? = some (.cells #[a, b, c] t (0, 0))) (x y z : Value) :
    (((w.setCell ⟨g, 0, none⟩ x).setCell ⟨g, 1, none⟩ y).setCell ⟨g, 2, none⟩ z).heap[g]? = some (.cells #[x, y, z] t (0, 0)) ∧ Kpt (fun b => b = g) w (((w.setCell ⟨g, 0, none⟩ x).setCell ⟨g, 1, none⟩ y).setCell ⟨g, 2, none⟩ z) :=
  ⟨heap_setCell_same _ _ 2 _ _ z (heap_setCell_same _ _ 1 _ _ y (heap_setCell_same _ _ 0 _ _ x h)), ((Kpt.setCell (Kpt.setCell (Kpt.setCell (Kpt.refl (fun b => b = g) w) (p := ⟨g, 0, none⟩) rfl x) (p := ⟨g, 1, none⟩) rfl y) (p := ⟨g, 2, none⟩) rfl z))⟩
theorem set2c {w : World} {g : Nat} {a b c : Value} {t : TypeId} (h : w.heap[g]? = some (.cells #[a, b, c] t (0, 0))) (y z : Value) :
    ((w.setCell ⟨g, 1, none⟩ y).setCell ⟨g, 2, none⟩ z).heap[g]? = some (.cells #[a, y, z] t (0, 0)) ∧ Kpt (fun b => b = g) w ((w.setCell ⟨g, 1, none⟩ y).setCell ⟨g, 2, none⟩ z) :=
  ⟨heap_setCell_same _ _ 2 _ _ z (heap_setCell_same _ _ 1 _ _ y h), (Kpt.setCell (Kpt.setCell (Kpt.refl (fun b => b = g) w) (p := ⟨g, 1, none⟩) rfl y) (p := ⟨g, 2, none⟩) rfl z)⟩
theorem best_any (w : World) (Ub off N c : Nat) (u : List Bool) (hN : N = u.length) (hN5 : N ≤ 1000) (hr : RdV w (some ⟨Ub, off, none⟩) (BvL u)) (hU : Ub < w.heap.size) (n : Nat) (hn : n ≤ 1000) :
    Calls Try.prog 62 #[.slice (some ⟨Ub, off, none⟩) N c, .int .i64 (n : Int)] w fun e w' => e = .returned (holeV (bestP u n)) ∧ Below w.heap.size w w' := by
  have HA := fun W => holes_any W (some ⟨Ub, off, none⟩) N c
  have HR := hid hr; have HN := hid hN
  clear hr hN
  refine calls_marks Try.func62 rfl ?_
  simp only [Try.ntmps62, List.size_toArray, List.length_cons, List.length_nil, Nat.reduceAdd, Nat.reduceSub, Array.replicate_succ, Array.replicate_zero, List.push_toArray, List.append_toArray, List.nil_append, List.cons_append]
  go_wp2_with fail
  refine (HA _).mono ?_
  rintro e w2 ⟨rfl, hw2⟩
  clear HA
  simp only [World.size_alloc] at *
  have hbw2 : Below w.heap.size w w2 := by
    rw [hw2]
    exact (((((Below.refl _ _).alloc (Nat.le_refl _) _).alloc (by simp) _).alloc (by simp; omega) _).alloc (by simp <;> omega) _).alloc (by simp <;> omega) _
  have hz2 : w2.heap.size = w.heap.size + 5 := by rw [hw2]; simp
  have a0 : w2.heap[w.heap.size]? = some (.cells #[.int .i64 (n : Int)] 3 (0, 0)) := by
    rw [hw2]
    exact (Below.heap_alloc _ _ _ (by simp; omega)).trans ((Below.heap_alloc _ _ _ (by simp; omega)).trans ((Below.heap_alloc _ _ _ (by simp; omega)).trans ((Below.heap_alloc _ _ _ (by simp)).trans (heap_alloc_new w _))))
  have a1 : w2.heap[w.heap.size + 1]? = some (.cells #[.int .i64 0, .int .i64 0, .int .i64 0] 24 (0, 0)) := by
    rw [hw2]
    refine (Below.heap_alloc _ _ _ (by simp <;> omega)).trans ((Below.heap_alloc _ _ _ (by simp <;> omega)).trans ((Below.heap_alloc _ _ _ (by simp <;> omega)).trans ?_))
    have := heap_alloc_new (w.alloc (.cells #[.int .i64 (n : Int)] 3)) (.cells #[.int .i64 0, .int .i64 0, .int .i64 0] 24)
    rwa [World.size_alloc] at this
  have a2 : w2.heap[w.heap.size + 1 + 1]? = some (.cells (exC (0, 0)) 24 (0, 0)) := by
    rw [hw2]
    refine (Below.heap_alloc _ _ _ (by simp <;> omega)).trans ((Below.heap_alloc _ _ _ (by simp <;> omega)).trans ?_)
    have := heap_alloc_new ((w.alloc (.cells #[.int .i64 (n : Int)] 3)).alloc (.cells #[.int .i64 0, .int .i64 0, .int .i64 0] 24)) (.cells #[.int .i64 0, .int .i64 0, .int .i64 0] 24)
    rwa [World.size_alloc, World.size_alloc] at this
  have a3 : w2.heap[w.heap.size + 1 + 1 + 1]? = some (.cells (exC (0, 0)) 24 (0, 0)) := by
    rw [hw2]
    refine (Below.heap_alloc _ _ _ (by simp <;> omega)).trans ?_
    have := heap_alloc_new (((w.alloc (.cells #[.int .i64 (n : Int)] 3)).alloc (.cells #[.int .i64 0, .int .i64 0, .int .i64 0] 24)).alloc (.cells #[.int .i64 0, .int .i64 0, .int .i64 0] 24)) (.cells #[.int .i64 0, .int .i64 0, .int .i64 0] 24)
    rwa [World.size_alloc, World.size_alloc, World.size_alloc] at this
  have a4 : w2.heap[w.heap.size + 1 + 1 + 1 + 1]? = some (.cells #[.slice (some ⟨Ub, off, none⟩) N c] 42 (0, 0)) := by
    rw [hw2]
    have := heap_alloc_new ((((w.alloc (.cells #[.int .i64 (n : Int)] 3)).alloc (.cells #[.int .i64 0, .int .i64 0, .int .i64 0] 24)).alloc (.cells #[.int .i64 0, .int .i64 0, .int .i64 0] 24)).alloc (.cells #[.int .i64 0, .int .i64 0, .int .i64 0] 24)) (.cells #[.slice (some ⟨Ub, off, none⟩) N c] 42)
    rwa [World.size_alloc, World.size_alloc, World.size_alloc, World.size_alloc] at this
  have hru := HR.out.kept hbw2
  clear hw2
  go_wp2_with fail
  refine wp_each2 (t := 10) (gf := 116) rfl (enters_of Try.func116 (by kernel_rfl) rfl) _ _
    (holes_iter w2 (w.heap.size + 1 + 1 + 1 + 1) Ub off N c u HN.out hN5 a4 hru (by omega)) (by intro b hb; omega)
    (BInv w n (holesG 0 0 u)) (fun c S A => False) (BSt w) ?_ ?_ ?_ ?_ holeV (holesG 0 0 u) rfl (fun h W W' => W' = W.alloc (.cells (exC h) 24)) ?_ ?act ?assign ?body ?done ?stop
  · intro b hb
    unfold BSt at hb
    omega
  · rintro k S A A' ⟨rfl, q0, q1, q2, q3, q4⟩ kk
    have hlt := heap_in q3
    exact ⟨rfl, (kk.block _ (heap_in q0) (fun h => by omega)).trans q0, (kk.block _ (heap_in q1) (fun h => by omega)).trans q1, (kk.block _ (heap_in q2) (fun h => by omega)).trans q2, (kk.block _ (heap_in q3) (fun h => by omega)).trans q3,
      ⟨kk.os.trans q4.os, kk.tape.trans q4.tape, kk.output.trans q4.output, Nat.le_trans q4.size kk.size, fun j hj => (kk.block j (by omega) (fun h => by omega)).trans (q4.block j hj)⟩⟩
  · rintro k S A A' q _
    exact q
  · exact ⟨rfl, a0, a1, a2, a3, hbw2⟩
  · rintro h W W' rfl
    exact (Below.refl _ _).alloc (Nat.le_refl _) _
  case assign =>
    intro l' h W2 K hK
    unfold holeV
    gi_wp2
    exact hK _ rfl
  case body =>
    rintro l' k h S W0 W1 W hk rfl kl hl0 hI hS0 hlt
    have qX := (kl.block _ (heap_in (heap_alloc_new W0 (.cells (exC h) 24))) (by omega)).trans (heap_alloc_new W0 (.cells (exC h) 24))
    have hI0 := hI
    obtain ⟨rfl, q0, q1, q2, q3, q4⟩ := hI0
    have hW0 : w.heap.size + 1 + 1 + 1 + 1 ≤ W0.heap.size := by
      have h1 := hS0 (w.heap.size + 1 + 1 + 1) (.inr rfl)
      omega
    obtain ⟨p, hp⟩ : ∃ p, p = bestF n ((holesG 0 0 u).take k) := ⟨_, rfl⟩
    rw [← hp] at q2 q3
    obtain ⟨en, gr⟩ := p
    simp only [exC] at q2 q3 qX
    have cn := cell_of_one q0
    obtain ⟨x0, x1, x2⟩ := cells3b qX
    obtain ⟨e0, e1, e2⟩ := cells3b q2
    obtain ⟨r0, r1, r2⟩ := cells3b q3
    clear a0 a1 a2 a3 a4 hru q4
    by_cases c1 : n ≤ h.2
    · have c1I : (n : Int) ≤ (h.2 : Int) := by omega
      by_cases c2 : en.2 = 0
      · skip
        by_cases g0' : gr.2 < h.2
        · have c2I : ((en.2 : Int) == 0) = true := by rw [c2]; rfl
          have gI : (gr.2 : Int) < (h.2 : Int) := by omega
          obtain ⟨f0, f1, f2⟩ := And.intro (frow q2 0) (And.intro (frow q2 1) (frow q2 2))
          have se := set3c q2 (.int .i64 0) (.int .i64 (h.1 : Int)) (.int .i64 (h.2 : Int))
          have q3e := (se.2.block _ (heap_in q3) (by omega)).trans q3
          obtain ⟨v0, v1, v2⟩ := cells3b q3e
          have qXe := (se.2.block _ (heap_in qX) (by omega)).trans qX
          obtain ⟨u0, u1, u2⟩ := cells3b qXe
          obtain ⟨g0, g1, g2⟩ := And.intro (frow q3e 0) (And.intro (frow q3e 1) (frow q3e 2))
          have sg := set3c q3e (.int .i64 0) (.int .i64 (h.1 : Int)) (.int .i64 (h.2 : Int))
          have HI := hid hI; have HK := hid hk; have HP := hid hp
          have FIN := hid (BInv.step hI hk ((se.2.mono (fun b hb => .inl hb)).trans (sg.2.mono (fun b hb => .inr hb))) (by rw [← hp]; unfold bestS; rw [if_pos ⟨c1, by first | exact .inl c2 | exact .inr c3⟩]; exact (sg.2.block _ (heap_in se.1) (by omega)).trans se.1) (by rw [← hp]; unfold bestS; rw [if_pos g0']; exact sg.1))
          clear hI hk hp q0 q1 qX se q3e qXe sg q2 q3
          refine wpIn_block ?_
          gi_wp2_with fail
          exact FIN.out
        · have c2I : ((en.2 : Int) == 0) = true := by rw [c2]; rfl
          have gI : ¬ (gr.2 : Int) < (h.2 : Int) := by omega
          obtain ⟨f0, f1, f2⟩ := And.intro (frow q2 0) (And.intro (frow q2 1) (frow q2 2))
          have se := set3c q2 (.int .i64 0) (.int .i64 (h.1 : Int)) (.int .i64 (h.2 : Int))
          have q3e := (se.2.block _ (heap_in q3) (by omega)).trans q3
          obtain ⟨v0, v1, v2⟩ := cells3b q3e
          have qXe := (se.2.block _ (heap_in qX) (by omega)).trans qX
          obtain ⟨u0, u1, u2⟩ := cells3b qXe
          have HI := hid hI; have HK := hid hk; have HP := hid hp
          have FIN := hid (BInv.step hI hk (se.2.mono (fun b hb => .inl hb)) (by rw [← hp]; unfold bestS; rw [if_pos ⟨c1, by first | exact .inl c2 | exact .inr c3⟩]; exact se.1) (by rw [← hp]; unfold bestS; rw [if_neg g0']; exact q3e))
          clear hI hk hp q0 q1 qX se q3e qXe q2 q3
          refine wpIn_block ?_
          gi_wp2_with fail
          exact FIN.out
      · have c2I : ((en.2 : Int) == 0) = false := by simpa using c2
        by_cases c3 : h.2 < en.2
        · skip
          by_cases g0' : gr.2 < h.2
          · have c3I : (h.2 : Int) < (en.2 : Int) := by omega
            have gI : (gr.2 : Int) < (h.2 : Int) := by omega
            obtain ⟨f0, f1, f2⟩ := And.intro (frow q2 0) (And.intro (frow q2 1) (frow q2 2))
            have se := set3c q2 (.int .i64 0) (.int .i64 (h.1 : Int)) (.int .i64 (h.2 : Int))
            have q3e := (se.2.block _ (heap_in q3) (by omega)).trans q3
            obtain ⟨v0, v1, v2⟩ := cells3b q3e
            have qXe := (se.2.block _ (heap_in qX) (by omega)).trans qX
            obtain ⟨u0, u1, u2⟩ := cells3b qXe
            obtain ⟨g0, g1, g2⟩ := And.intro (frow q3e 0) (And.intro (frow q3e 1) (frow q3e 2))
            have sg := set3c q3e (.int .i64 0) (.int .i64 (h.1 : Int)) (.int .i64 (h.2 : Int))
            have HI := hid hI; have HK := hid hk; have HP := hid hp
            have FIN := hid (BInv.step hI hk ((se.2.mono (fun b hb => .inl hb)).trans (sg.2.mono (fun b hb => .inr hb))) (by rw [← hp]; unfold bestS; rw [if_pos ⟨c1, by first | exact .inl c2 | exact .inr c3⟩]; exact (sg.2.block _ (heap_in se.1) (by omega)).trans se.1) (by rw [← hp]; unfold bestS; rw [if_pos g0']; exact sg.1))
            clear hI hk hp q0 q1 qX se q3e qXe sg q2 q3
            refine wpIn_block ?_
            gi_wp2_with fail
            exact FIN.out
          · have c3I : (h.2 : Int) < (en.2 : Int) := by omega
            have gI : ¬ (gr.2 : Int) < (h.2 : Int) := by omega
            obtain ⟨f0, f1, f2⟩ := And.intro (frow q2 0) (And.intro (frow q2 1) (frow q2 2))
            have se := set3c q2 (.int .i64 0) (.int .i64 (h.1 : Int)) (.int .i64 (h.2 : Int))
            have q3e := (se.2.block _ (heap_in q3) (by omega)).trans q3
            obtain ⟨v0, v1, v2⟩ := cells3b q3e
            have qXe := (se.2.block _ (heap_in qX) (by omega)).trans qX
            obtain ⟨u0, u1, u2⟩ := cells3b qXe
            have HI := hid hI; have HK := hid hk; have HP := hid hp
            have FIN := hid (BInv.step hI hk (se.2.mono (fun b hb => .inl hb)) (by rw [← hp]; unfold bestS; rw [if_pos ⟨c1, by first | exact .inl c2 | exact .inr c3⟩]; exact se.1) (by rw [← hp]; unfold bestS; rw [if_neg g0']; exact q3e))
            clear hI hk hp q0 q1 qX se q3e qXe q2 q3
            refine wpIn_block ?_
            gi_wp2_with fail
            exact FIN.out
        · skip
          by_cases g0' : gr.2 < h.2
          · have c3I : ¬ (h.2 : Int) < (en.2 : Int) := by omega
            have gI : (gr.2 : Int) < (h.2 : Int) := by omega
            obtain ⟨g0, g1, g2⟩ := And.intro (frow q3 0) (And.intro (frow q3 1) (frow q3 2))
            have sg := set3c q3 (.int .i64 0) (.int .i64 (h.1 : Int)) (.int .i64 (h.2 : Int))
            have HI := hid hI; have HK := hid hk; have HP := hid hp
            have FIN := hid (BInv.step hI hk (sg.2.mono (fun b hb => .inr hb)) (by rw [← hp]; unfold bestS; rw [if_neg (by rintro ⟨h1, h2⟩; (try dsimp only at h2); omega)]; exact (sg.2.block _ (heap_in q2) (by omega)).trans q2) (by rw [← hp]; unfold bestS; rw [if_pos g0']; exact sg.1))
            clear hI hk hp q0 q1 qX sg q2 q3
            refine wpIn_block ?_
            gi_wp2_with fail
            exact FIN.out
          · have c3I : ¬ (h.2 : Int) < (en.2 : Int) := by omega
            have gI : ¬ (gr.2 : Int) < (h.2 : Int) := by omega
            have HI := hid hI; have HK := hid hk; have HP := hid hp
            have FIN := hid (BInv.step hI hk (Kpt.refl _ _) (by rw [← hp]; unfold bestS; rw [if_neg (by rintro ⟨h1, h2⟩; (try dsimp only at h2); omega)]; exact q2) (by rw [← hp]; unfold bestS; rw [if_neg g0']; exact q3))
            clear hI hk hp q0 q1 qX q2 q3
            refine wpIn_block ?_
            gi_wp2_with fail
            exact FIN.out
    · have c1I : ¬ (n : Int) ≤ (h.2 : Int) := by omega
      by_cases g0' : gr.2 < h.2
      · skip
        have gI : (gr.2 : Int) < (h.2 : Int) := by omega
        obtain ⟨g0, g1, g2⟩ := And.intro (frow q3 0) (And.intro (frow q3 1) (frow q3 2))
        have sg := set3c q3 (.int .i64 0) (.int .i64 (h.1 : Int)) (.int .i64 (h.2 : Int))
        have HI := hid hI; have HK := hid hk; have HP := hid hp
        have FIN := hid (BInv.step hI hk (sg.2.mono (fun b hb => .inr hb)) (by rw [← hp]; unfold bestS; rw [if_neg (by rintro ⟨h1, h2⟩; (try dsimp only at h2); omega)]; exact (sg.2.block _ (heap_in q2) (by omega)).trans q2) (by rw [← hp]; unfold bestS; rw [if_pos g0']; exact sg.1))
        clear hI hk hp q0 q1 qX sg q2 q3
        refine wpIn_block ?_
        gi_wp2_with fail
        exact FIN.out
      · skip
        have gI : ¬ (gr.2 : Int) < (h.2 : Int) := by omega
        have HI := hid hI; have HK := hid hk; have HP := hid hp
        have FIN := hid (BInv.step hI hk (Kpt.refl _ _) (by rw [← hp]; unfold bestS; rw [if_neg (by rintro ⟨h1, h2⟩; (try dsimp only at h2); omega)]; exact q2) (by rw [← hp]; unfold bestS; rw [if_neg g0']; exact q3))
        clear hI hk hp q0 q1 qX q2 q3
        refine wpIn_block ?_
        gi_wp2_with fail
        exact FIN.out
  case done =>
    rintro S W2 ⟨rfl, q0, q1, q2, q3, q4⟩ hD hnD
    have ht : (holesG 0 0 u).take (holesV u).length = holesG 0 0 u := List.take_of_length_le (by rw [holesV, List.length_map]; exact Nat.le_refl _)
    rw [ht] at q2 q3
    have hbp : bestP u n = if 0 < (bestF n (holesG 0 0 u)).1.2 then ((bestF n (holesG 0 0 u)).1.1, n) else (bestF n (holesG 0 0 u)).2 := rfl
    obtain ⟨p, hp⟩ : ∃ p, p = bestF n (holesG 0 0 u) := ⟨_, rfl⟩
    rw [← hp] at q2 q3 hbp
    obtain ⟨en, gr⟩ := p
    simp only [exC] at q2 q3 hbp
    have cn := cell_of_one q0
    obtain ⟨e0, e1, e2⟩ := cells3b q2
    obtain ⟨r0, r1, r2⟩ := cells3b q3
    obtain ⟨b0, b1, b2⟩ := cells3b q1
    obtain ⟨f0, f1, f2⟩ := And.intro (frow q1 0) (And.intro (frow q1 1) (frow q1 2))
    have g2 := frow q2 2
    have hw2 := heap_in hD
    clear a0 a1 a2 a3 a4 hru ht hp
    by_cases h0 : 0 < en.2
    · have h0I : (0 : Int) < (en.2 : Int) := by omega
      rw [if_pos h0] at hbp
      have s2 : (W2.setCell ⟨w.heap.size + 1 + 1, 2, none⟩ (.int .i64 (n : Int))).heap[w.heap.size + 1 + 1]? = some (.cells #[.int .i64 0, .int .i64 (en.1 : Int), .int .i64 (n : Int)] 24 (0, 0)) := heap_setCell_same _ _ 2 _ _ (.int .i64 (n : Int)) q2
      have K2 : Kpt (fun b => b = w.heap.size + 1 + 1) W2 (W2.setCell ⟨w.heap.size + 1 + 1, 2, none⟩ (.int .i64 (n : Int))) := Kpt.setCell (Kpt.refl (fun b => b = w.heap.size + 1 + 1) W2) (p := ⟨w.heap.size + 1 + 1, 2, none⟩) rfl _
      have q1' := (K2.block _ (heap_in q1) (by omega)).trans q1
      obtain ⟨d0, d1, d2⟩ := cells3b q1'
      obtain ⟨d3, d4, d5⟩ := And.intro (frow q1' 0) (And.intro (frow q1' 1) (frow q1' 2))
      obtain ⟨t0, t1, t2⟩ := cells3b s2
      have st := set3c q1' (.int .i64 0) (.int .i64 (en.1 : Int)) (.int .i64 (n : Int))
      have hDf := (st.2.block _ (Nat.lt_of_lt_of_le hw2 K2.size) (by omega)).trans ((K2.block _ hw2 (by omega)).trans hD)
      have HB := hid hbp
      have hbl : Below w.heap.size w ((((W2.setCell ⟨w.heap.size + 1 + 1, 2, none⟩ (.int .i64 (n : Int))).setCell ⟨w.heap.size + 1, 0, none⟩ (.int .i64 0)).setCell ⟨w.heap.size + 1, 1, none⟩ (.int .i64 (en.1 : Int))).setCell ⟨w.heap.size + 1, 2, none⟩ (.int .i64 (n : Int))) :=
        (((q4.setCell (p := ⟨w.heap.size + 1 + 1, 2, none⟩) (by show w.heap.size ≤ w.heap.size + 1 + 1; omega) _).setCell (p := ⟨w.heap.size + 1, 0, none⟩) (by show w.heap.size ≤ w.heap.size + 1; omega) _).setCell (p := ⟨w.heap.size + 1, 1, none⟩) (by show w.heap.size ≤ w.heap.size + 1; omega) _).setCell (p := ⟨w.heap.size + 1, 2, none⟩) (by show w.heap.size ≤ w.heap.size + 1; omega) _
      have HBL := hid hbl; have HDF := hid hDf; have HST := hid st.1
      clear hbp q0 q1 q2 q3 q4 hD hnD s2 K2 q1' st hDf hbl
      go_wp2
      have rr : ((((((W2.setCell ⟨w.heap.size + 1 + 1, 2, none⟩ (.int .i64 (n : Int))).setCell ⟨w.heap.size + 1, 0, none⟩ (.int .i64 0)).setCell ⟨w.heap.size + 1, 1, none⟩ (.int .i64 (en.1 : Int))).setCell ⟨w.heap.size + 1, 2, none⟩ (.int .i64 (n : Int))).putObj w2.heap.size (.deferred none))).heap[w.heap.size + 1]? = some (.cells #[.int .i64 0, .int .i64 (en.1 : Int), .int .i64 (n : Int)] 24 (0, 0)) := (World.putObj_heap_other (by omega)).trans HST.out
      obtain ⟨k0, k1, k2⟩ := cells3b rr
      refine leave1 (v := holeV (bestP u n)) (.inl rfl) rfl HDF.out ?_ ⟨rfl, below_putObj HBL.out (by omega) _⟩
      rw [HB.out]
      simp [results, Try.results62, go_sem, k0, k1, k2, holeV]
    · have h0I : ¬ (0 : Int) < (en.2 : Int) := by omega
      rw [if_neg h0] at hbp
      have st := set3c q1 (.int .i64 0) (.int .i64 (gr.1 : Int)) (.int .i64 (gr.2 : Int))
      have hDf := (st.2.block _ hw2 (by omega)).trans hD
      have HB := hid hbp
      have hbl : Below w.heap.size w (((W2.setCell ⟨w.heap.size + 1, 0, none⟩ (.int .i64 0)).setCell ⟨w.heap.size + 1, 1, none⟩ (.int .i64 (gr.1 : Int))).setCell ⟨w.heap.size + 1, 2, none⟩ (.int .i64 (gr.2 : Int))) :=
        ((q4.setCell (p := ⟨w.heap.size + 1, 0, none⟩) (by show w.heap.size ≤ w.heap.size + 1; omega) _).setCell (p := ⟨w.heap.size + 1, 1, none⟩) (by show w.heap.size ≤ w.heap.size + 1; omega) _).setCell (p := ⟨w.heap.size + 1, 2, none⟩) (by show w.heap.size ≤ w.heap.size + 1; omega) _
      have HBL := hid hbl; have HDF := hid hDf; have HST := hid st.1
      have HZ := hid hz2
      clear hbp q0 q1 q2 q3 q4 hD hnD st hDf hbl hz2
      go_wp2
      have rr : ((((W2.setCell ⟨w.heap.size + 1, 0, none⟩ (.int .i64 0)).setCell ⟨w.heap.size + 1, 1, none⟩ (.int .i64 (gr.1 : Int))).setCell ⟨w.heap.size + 1, 2, none⟩ (.int .i64 (gr.2 : Int))).putObj w2.heap.size (.deferred none)).heap[w.heap.size + 1]? = some (.cells #[.int .i64 0, .int .i64 (gr.1 : Int), .int .i64 (gr.2 : Int)] 24 (0, 0)) := (World.putObj_heap_other (by have := HZ.out; omega)).trans HST.out
      obtain ⟨k0, k1, k2⟩ := cells3b rr
      refine leave1 (v := holeV (bestP u n)) (.inl rfl) rfl HDF.out ?_ ⟨rfl, below_putObj HBL.out (by have := HZ.out; omega) _⟩
      rw [HB.out]
      simp [results, Try.results62, go_sem, k0, k1, k2, holeV]
  case stop =>
    rintro c S W2 h
    exact h.elim
end Go.Proofs.Ytahlhdhljjpeoaa
