/- RecordWhole, the walk, where nothing is to be shown (printed by gen06s.py). -/
import Derived.Test.YtknhfaplddgnlaaWhole2
namespace Go.Proofs.Ytknhfaplddgnlaa
open Go.RowKit
set_option maxHeartbeats 1500000
set_option maxRecDepth 100000
set_option linter.unusedVariables false
set_option linter.unusedSimpArgs false

theorem putE_or (ep seq : Int) (ims : List Img) : putE ep seq ims = 0 ∨ putE ep seq ims = 80 := by
  unfold putE
  split
  · exact .inl rfl
  · exact .inr rfl
theorem putE_yes {ep seq : Int} {ims : List Img} (h : rightG ep seq ims = true) : putE ep seq ims = 0 := by simp [putE, h]
theorem putE_no {ep seq : Int} {ims : List Img} (h : rightG ep seq ims = false) : putE ep seq ims = 80 := by simp [putE, h]
theorem whole_none (w : World) (ep seq : Int) (a : Option Addr) (N c : Nat) (ims : List Img) (hN : N = ims.length) (hg : RdG w a ims) (ep2 seq2 : Int) (a2 : Option Addr) (N2 c2 : Nat) (ims2 : List Img) (hN2 : N2 = ims2.length) (hg2 : RdG w a2 ims2) (a3 : Option Addr) (N3 c3 : Nat) (nz : Bool)
    (hno : rightG ep seq ims = false ∨ rightG ep2 seq2 ims2 = false ∨ (ep = ep2 ∧ seq = seq2)) :
    Calls Try.prog 5 #[.agg #[.int .i64 ep, .int .i64 seq, .slice a N c], .agg #[.int .i64 ep2, .int .i64 seq2, .slice a2 N2 c2], .slice a3 N3 c3, .bool nz] w fun e w' => e = .returned (.bool true) ∧ Below w.heap.size w w' := by
  have hb0 : Below w.heap.size w ((w.alloc (.cells #[.int .i64 ep, .int .i64 seq, .slice a N c] 28)).alloc (.cells #[.int .i64 ep2, .int .i64 seq2, .slice a2 N2 c2] 28)) := ((Below.refl _ _).alloc (Nat.le_refl _) _).alloc (by simp) _
  have hrA : ((w.alloc (.cells #[.int .i64 ep, .int .i64 seq, .slice a N c] 28)).alloc (.cells #[.int .i64 ep2, .int .i64 seq2, .slice a2 N2 c2] 28)).heap[w.heap.size]? = some (.cells #[.int .i64 ep, .int .i64 seq, .slice a N c] 28 (0, 0)) := (Below.heap_alloc _ _ _ (by simp)).trans (heap_alloc_new w _)
  have hrB : ((w.alloc (.cells #[.int .i64 ep, .int .i64 seq, .slice a N c] 28)).alloc (.cells #[.int .i64 ep2, .int .i64 seq2, .slice a2 N2 c2] 28)).heap[w.heap.size + 1]? = some (.cells #[.int .i64 ep2, .int .i64 seq2, .slice a2 N2 c2] 28 (0, 0)) := by
    have := heap_alloc_new (w.alloc (.cells #[.int .i64 ep, .int .i64 seq, .slice a N c] 28)) (.cells #[.int .i64 ep2, .int .i64 seq2, .slice a2 N2 c2] 28)
    simpa using this
  obtain ⟨w0, hw0⟩ : ∃ w0, w0 = (w.alloc (.cells #[.int .i64 ep, .int .i64 seq, .slice a N c] 28)).alloc (.cells #[.int .i64 ep2, .int .i64 seq2, .slice a2 N2 c2] 28) := ⟨_, rfl⟩
  obtain ⟨q0, q1, q2⟩ := cells3 hrA
  obtain ⟨r0, r1, r2⟩ := cells3 hrB
  rw [← hw0] at hb0 hrA hrB
  have PT := PutU w0 ep seq a N c ims hN (hg.below hb0)
  have hp : putE ep seq ims = 80 ∨ (putE ep seq ims = 0 ∧ putE ep2 seq2 ims2 = 80) ∨ (putE ep seq ims = 0 ∧ putE ep2 seq2 ims2 = 0 ∧ ep = ep2 ∧ seq = seq2) := by
    rcases hno with h | h | h
    · exact .inl (putE_no h)
    · rcases putE_or ep seq ims with h1 | h1
      · exact .inr (.inl ⟨h1, putE_no h⟩)
      · exact .inl h1
    · rcases putE_or ep seq ims with h1 | h1
      · rcases putE_or ep2 seq2 ims2 with h2 | h2
        · exact .inr (.inr ⟨h1, h2, h⟩)
        · exact .inr (.inl ⟨h1, h2⟩)
      · exact .inl h1
  have HP := hid hp; have HN := hid hN; have HN2 := hid hN2; have HG2 := hid hg2; have HW0 := hid hw0; have HB0 := hid hb0; have HRA := hid hrA; have HRB := hid hrB
  rw [hw0] at PT
  clear hp hno hN hN2 hg hg2 hw0 hb0 hrA hrB
  go_enter Try.func5, Try.ntmps5
  go_wp2_with fail
  refine PT.mono ?_
  rw [← HW0.out]
  rintro e w1 ⟨b1, A1, n1, c1, rfl, _, _⟩
  clear PT q0 q1 q2 r0 r1 r2
  have hb1 := HB0.out.trans (b1.mono HB0.out.size)
  have PT := PutU w1 ep2 seq2 a2 N2 c2 ims2 HN2.out (HG2.out.below hb1)
  obtain ⟨r0, r1, r2⟩ := cells3 ((b1.block _ (heap_in HRB.out)).trans HRB.out)
  have HB1 := hid hb1; have B1 := hid b1
  clear hb1 b1
  go_wp2_with fail
  refine PT.mono ?_
  rintro e w2 ⟨b2, A2, n2, c2', rfl, _, _⟩
  clear PT r0 r1 r2
  have b02 := B1.out.trans (b2.mono B1.out.size)
  have hb2 := HB1.out.trans (b2.mono HB1.out.size)
  obtain ⟨q0, q1, q2⟩ := cells3 ((b02.block _ (heap_in HRA.out)).trans HRA.out)
  obtain ⟨r0, r1, r2⟩ := cells3 ((b02.block _ (heap_in HRB.out)).trans HRB.out)
  have HB2 := hid hb2
  have hp := HP.out
  generalize putE ep seq ims = p1 at *
  generalize putE ep2 seq2 ims2 = p2 at *
  clear b02 hb2 b2 HP
  have AW := awake06_any w2
  have fin : ∀ w3 : World, Below w2.heap.size w2 w3 → Below w.heap.size w w3 := fun w3 h => HB2.out.trans (h.mono HB2.out.size)
  have FIN := hid fin
  clear fin
  rcases hp with h | ⟨h, h2⟩ | ⟨h, h2, h3, h4⟩
  · subst h
    go_wp2_with fail
    refine AW.mono ?_
    rintro e w3 h3
    have h5 := FIN.out w3 h3.2
    obtain ⟨h6, _⟩ := h3
    subst h6
    go_wp2
    go_ret
    exact ⟨rfl, h5⟩
  · subst h h2
    go_wp2_with fail
    refine AW.mono ?_
    rintro e w3 h3
    have h5 := FIN.out w3 h3.2
    obtain ⟨h6, _⟩ := h3
    subst h6
    go_wp2
    go_ret
    exact ⟨rfl, h5⟩
  · subst h h2 h3 h4
    have e1 : (ep == ep) = true := by simp
    have e2 : (seq == seq) = true := by simp
    go_wp2_with fail
    refine AW.mono ?_
    rintro e w3 h3
    have h5 := FIN.out w3 h3.2
    obtain ⟨h6, _⟩ := h3
    subst h6
    clear e1 e2
    go_wp2
    go_ret
    exact ⟨rfl, h5⟩
end Go.Proofs.Ytknhfaplddgnlaa
