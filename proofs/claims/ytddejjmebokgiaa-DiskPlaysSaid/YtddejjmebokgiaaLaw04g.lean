/- The walk of DiskSpares. -/
import Derived.Test.YtddejjmebokgiaaLaw04f
import Derived.Test.YtddejjmebokgiaaApart3
namespace Go.Proofs.Ytddejjmebokgiaa
open Go.RowKit
variable {Q : Nat → Prop}
set_option maxHeartbeats 3200000
set_option maxRecDepth 100000
set_option linter.unusedVariables false
set_option linter.unusedSimpArgs false

theorem Dat.lt {w : World} {v : Value} {l : List UInt8} (h : Dat Q w v l) : Dat (fun b => Q b ∧ b < w.heap.size) w v l := by
  obtain ⟨b, off, c, cs, e, h1, h2, h3, h4, h5⟩ := h
  exact ⟨b, off, c, cs, e, h1, h2, h3, h4, h5, heap_in h1⟩
theorem Dats.lt {w : World} {vs : List Value} {ls : List (List UInt8)} (h : Dats Q w vs ls) : Dats (fun b => Q b ∧ b < w.heap.size) w vs ls := ⟨h.1, fun i v l h1 h2 => (h.2 i v l h1 h2).lt⟩
theorem IsDk.lt {base : Nat} {w : World} {D : Nat} {S : Nat → Prop} {d : Dk} (h : IsDk Q base w D S d) : IsDk (fun b => Q b ∧ b < w.heap.size) base w D S d := by
  obtain ⟨vs, vn, vw, rfl, hD, hr, ⟨⟨xs, gs, cs, a1, a2, a3⟩, ⟨xn, gn, cn, b1, b2, b3⟩, ⟨xw, c1, c2⟩, hne⟩, ho⟩ := h
  exact ⟨vs, vn, vw, rfl, hD, hr, ⟨⟨xs, gs, cs, a1, a2, a3.lt⟩, ⟨xn, gn, cn, b1, b2, b3.lt⟩, ⟨xw, c1, c2.lt⟩, hne⟩, ho⟩
def gs4 {α : Type} (a b c d : α) (k : Nat) : α := if k = 0 then a else if k = 1 then b else if k = 2 then c else d
theorem row4 {W : World} {L g1 g2 g3 g4 c1 c2 c3 c4 : Nat} {t : TypeId} (h : W.heap[L]? = some (.cells #[.slice (some ⟨g1, 0, none⟩) 4096 c1, .slice (some ⟨g2, 0, none⟩) 4096 c2, .slice (some ⟨g3, 0, none⟩) 4096 c3, .slice (some ⟨g4, 0, none⟩) 4096 c4] t (0, 0))) :
    ∀ k, k < 4 → W.cell? ⟨L, k, none⟩ = some (.slice (some ⟨gs4 g1 g2 g3 g4 k, 0, none⟩) ((fun _ => 4096) k) (gs4 c1 c2 c3 c4 k)) := by
  intro k hk
  rw [cell_of_row _ _ _ _ _ _ h]
  rcases k with _ | _ | _ | _ | k
  · rfl
  · rfl
  · rfl
  · rfl
  · omega
theorem DiskSpares_any (w : World) (b : Int) :
    Calls Try.prog 4 #[.int .i64 b] w fun e w' => e = .returned (.bool true) ∧ Below w.heap.size w w' := by
  have AW := awake04_any
  have NW := New_any w 1 (by decide) (by decide)
  have MD := fun w' => Made_any w' b 4096 (by decide)
  have lL := madeB_length b 4096
  generalize madeB b 4096 = L at *
  have c0 : (newDk 1).calm := ⟨rfl, rfl, rfl⟩
  obtain ⟨e1, q1, c1⟩ := calm_write (n := 0) (b := L) c0 (show 0 < 1 by decide) lL
  have w0 : (newDk 1).wn.length < 1000000 := show 0 < 1000000 by decide
  have hnow : ((newDk 1).put 0 L).now = [L] := rfl
  obtain ⟨d0, hd0⟩ : ∃ d, d = newDk 1 := ⟨_, rfl⟩
  rw [← hd0] at e1 q1 c1 w0 hnow NW
  obtain ⟨d1, hd1⟩ : ∃ d, d = d0.put 0 L := ⟨_, rfl⟩
  rw [← hd1] at q1 c1 hnow
  have hhas : d1.hasB ((0 : Nat) : Int) L = true := calm_has c1.down (by rw [hnow]; rfl)
  have hE : d1.rdE 0 = 0 := by
    have := wrong_zero (d := d1) (n := 0) (by rw [hnow]; exact Nat.one_pos)
    simp only [Int.natCast_zero, Int.cast_ofNat_Int] at this
    simp only [Dk.rdE, this, c1.down, ne_eq, not_true, if_false, Bool.false_eq_true]
  have hB : d1.rdB 0 = L := by
    have := wrong_zero (d := d1) (n := 0) (by rw [hnow]; exact Nat.one_pos)
    simp only [Int.natCast_zero, Int.cast_ofNat_Int] at this
    simp only [Dk.rdB, this, c1.down, ne_eq, not_true, if_false, Bool.false_eq_true, hnow]
    rfl
  have hF : d1.now.flatten = L := by rw [hnow]; simp
  have hNl : d1.now.length = 1 := by rw [hnow]; rfl
  have HL := hid lL
  clear lL hd0 hd1 c0 c1 hnow
  simp only [show ((0 : Nat) : Int) = 0 from rfl] at e1 q1 hhas
  go_enter Try.func4, Try.ntmps4
  go_wp2_with fail
  refine NW.mono ?_
  rintro e v1 ⟨D, S, rfl, i1, b1⟩
  unfold ptr
  clear NW
  go_wp2_with fail
  refine (MD _).mono ?_
  rintro e v2 ⟨gi, rfl, g2, b2⟩
  have i2 := i1.lt.below b2
  have bb2 := b1.trans (b2.mono b1.size)
  have WR := Write_is v2 D i2 w0 0 (some ⟨gi, 0, none⟩) 4096 4096 L HL.out.symm g2.rdu
  rw [e1, q1] at WR
  unfold ptr at WR
  go_wp2_with fail
  refine WR.mono ?_
  rintro e v3 ⟨rfl, S3, i3, k3, s3⟩
  have i3l := i3.lt
  have g3 := g2.kpt' k3 i2.nou
  have bb3 := kpt_below' bb2 k3 bb2.size (fun j hj hs => by have := (i2.blocks hs).1; omega)
  have hSl := hid (fun b (hb : S3 b) => (i3.blocks hb).2)
  have hgi1 : v1.heap.size ≤ gi := g2.lt.1
  have hgi2 : gi < v2.heap.size := g2.lt.2
  have hsz3 := k3.size
  have HU := hid g3.u8
  clear WR i1 i2 g2 b2 k3 s3 i3 bb2
  have RD := fun w' h => Read_is w' D (Q := fun b => (Qp (fun b => w.heap.size ≤ b ∧ b < v1.heap.size) v2 b) ∧ b < v3.heap.size) (base := w.heap.size) (S := S3) (d := d1) h 0
  simp only [hE, hB] at RD
  have IM := fun w' h => Image_is w' D (Q := fun b => (Qp (fun b => w.heap.size ≤ b ∧ b < v1.heap.size) v2 b) ∧ b < v3.heap.size) (base := w.heap.size) (S := S3) (d := d1) h
  simp only [hF, hNl] at IM
  unfold ptr at RD IM
  go_wp2_with fail
  refine (RD _ i3l).mono ?_
  rintro e v4 ⟨A4, c4, rfl, g4, b4⟩
  obtain ⟨gx, rfl, hgx1, hgx2⟩ := own_adr g4 (by intro e; have := HL.out; rw [e] at this; simp at this)
  have i4 := i3l.below b4
  clear i3l
  go_wp2_with fail
  refine (RD _ i4).mono ?_
  rintro e v5 ⟨A5, c5, rfl, g5, b5⟩
  obtain ⟨gy, rfl, hgy1, hgy2⟩ := own_adr g5 (by intro e; have := HL.out; rw [e] at this; simp at this)
  have i5 := i4.below b5
  clear i4 RD
  go_wp2_with fail
  refine (IM _ i5).mono ?_
  rintro e v6 ⟨A6, c6, rfl, g6, b6⟩
  obtain ⟨gz, rfl, hgz1, hgz2⟩ := own_adr g6 (by intro e; have := HL.out; rw [e] at this; simp at this)
  have i6 := i5.below b6
  have x6 := (g4.below b5).below b6
  have y6 := g5.below b6
  have n6 := ((g3.below b4).below b5).below b6
  have bb6 := ((bb3.trans (b4.mono bb3.size)).trans (b5.mono (bb3.trans (b4.mono bb3.size)).size)).trans (b6.mono ((bb3.trans (b4.mono bb3.size)).trans (b5.mono (bb3.trans (b4.mono bb3.size)).size)).size)
  have hz4 := b4.size; have hz5 := b5.size; have hz6 := b6.size; have hz1 := b1.size
  clear i5 IM g3 g4 g5 b4 b5 b6 bb3
  rw [HL.out]
  have SB := SameBytes_self v6 (some ⟨gx, 0, none⟩) (some ⟨gy, 0, none⟩) c4 c5 4096 4096 L HL.out.symm HL.out.symm x6.rd y6.rd
  go_wp2_with fail
  refine SB.mono ?_
  rintro e v7 ⟨rfl, rfl⟩
  clear SB
  go_wp2_with fail
  obtain ⟨va, hva⟩ : ∃ va, va = v6.alloc (.cells #[.slice (some ⟨gx, 0, none⟩) 4096 c4, .slice (some ⟨gy, 0, none⟩) 4096 c5, .slice (some ⟨gz, 0, none⟩) 4096 c6, .slice (some ⟨gi, 0, none⟩) 4096 4096] 30) := ⟨_, rfl⟩
  have ba : Below v6.heap.size v6 va := by rw [hva]; exact (Below.refl _ _).alloc (Nat.le_refl _) _
  have hrow := row4 (show va.heap[v6.heap.size]? = some (.cells #[.slice (some ⟨gx, 0, none⟩) 4096 c4, .slice (some ⟨gy, 0, none⟩) 4096 c5, .slice (some ⟨gz, 0, none⟩) 4096 c6, .slice (some ⟨gi, 0, none⟩) 4096 4096] 30 (0, 0)) by rw [hva]; exact heap_alloc_new v6 _)
  have hLie : Lie 4 (gs4 gx gy gz gi) (gs4 c4 c5 c6 4096) (fun _ => 4096) w.heap.size va (fun _ => L) := by
    intro j hj
    refine ⟨?_, HL.out⟩
    rcases j with _ | _ | _ | _ | j
    · exact (x6.mono (by omega)).below ba
    · exact (y6.mono (by omega)).below ba
    · exact (g6.mono (by omega)).below ba
    · exact (n6.mono (by omega)).below ba
    · omega
  have AP := ApartBytes_any va w.heap.size v6.heap.size 4 4 (gs4 gx gy gz gi) (gs4 c4 c5 c6 4096) (fun _ => 4096) (fun _ => L) (by decide) hrow hLie
    (by intro j k hj hk hjk; rcases j with _ | _ | _ | _ | j <;> rcases k with _ | _ | _ | _ | k <;> simp [gs4] at hjk ⊢ <;> omega)
    (by intro k hk; rcases k with _ | _ | _ | _ | k <;> simp [gs4] <;> omega)
    (by intro k hk; decide) (by have := ba.size; have := bb6.size; omega)
  have ia := i6.below ba
  have bba := bb6.trans (ba.mono bb6.size)
  rw [← hva]
  have HVA := hid hva
  clear hva hrow hLie x6 y6 n6 g6 i6 bb6
  refine AP.mono ?_
  rintro e v8 ⟨rfl, k8⟩
  have hT : ∀ b, (∃ k, k < 4 ∧ gs4 gx gy gz gi k = b) → b = gi ∨ v3.heap.size ≤ b := by
    rintro b ⟨k, hk, rfl⟩
    rcases k with _ | _ | _ | _ | k
    · right; simp [gs4]; omega
    · right; simp [gs4]; omega
    · right; simp [gs4]; omega
    · left; rfl
    · omega
  have i8 := ia.kptQ k8 (fun b hb hs => by
      obtain ⟨hq, hlt⟩ := hb
      rcases hT b hs with rfl | h
      · rcases hq with ⟨_, h⟩ | h <;> omega
      · omega) (fun b hb hs => by
      have h1 := hSl.out b hb
      rcases hT b hs with rfl | h
      · exact h1.2 HU.out
      · omega)
  have bb8 := kpt_below' bba k8 bba.size (fun j hj hs => by rcases hT j hs with rfl | h <;> omega)
  clear AP ia bba k8 hT
  go_wp2_with fail
  refine (MD _).mono ?_
  rintro e v9 ⟨g9, rfl, f9, b9⟩
  have HS := has_is v9 D (i8.below b9) 0 (some ⟨g9, 0, none⟩) 4096 4096 L HL.out.symm f9.rd
  rw [hhas] at HS
  unfold ptr at HS
  have bb9 := bb8.trans (b9.mono bb8.size)
  clear MD i8 bb8 f9
  go_wp2_with fail
  refine HS.mono ?_
  rintro e v10 ⟨rfl, b10⟩
  go_wp2_with fail
  refine (AW _).mono ?_
  rintro e v11 ⟨rfl, b11⟩
  have bb10 := bb9.trans (b10.mono bb9.size)
  go_wp2
  go_ret
  exact ⟨rfl, bb10.trans (b11.mono bb10.size)⟩
end Go.Proofs.Ytddejjmebokgiaa
