/- Flush and Pending. -/
import Derived.Test.YtddejjmebokgiaaDkE
namespace Go.Proofs.Ytddejjmebokgiaa
open Go.RowKit
variable {Q : Nat → Prop}
set_option maxHeartbeats 3200000
set_option maxRecDepth 100000
set_option linter.unusedVariables false
set_option linter.unusedSimpArgs false

def Dk.flush (d : Dk) : Dk := { d with safe := d.now, wn := [], wd := [] }
def Dk.flD (d : Dk) : Dk := if d.stopE ≠ 0 then d.stopD else d.stopD.flush
theorem Dk.ok.flush {d : Dk} (h : d.ok) : d.flush.ok := ⟨rfl, h.pos, h.max, rfl, by simp [Dk.flush], by simp [Dk.flush], h.n4, h.n4, by simp [Dk.flush]⟩
theorem refit {base : Nat} {w W : World} {D : Nat} {cs : Array Value} {vs vn vw : Value} {d : Dk} (hD : base ≤ D) (hr : w.heap[D]? = some (.cells cs 74 (0, 0))) (k : Kpt (fun b => b = D) w W) (hp : Prt Q base w d vs vn vw) (ho : d.ok)
    (hr' : W.heap[D]? = some (.cells (dkC vs vn vw d) 74 (0, 0))) : IsDk Q base W D (foot D vs vn vw) d := ⟨vs, vn, vw, rfl, hD, hr', hp.other hr k, ho⟩
theorem flush_mem {base : Nat} {w1 w2 : World} {D : Nat} {S : Nat → Prop} {d : Dk} {vs vn vw : Value} {g c : Nat} {xn : List Value} (hb : Below w1.heap.size w1 w2) (hsz : base ≤ w1.heap.size)
    (hS : S = foot D vs vn vw) (hin : ∀ b, S b → b < w1.heap.size) (hD : base ≤ D) (hr : w2.heap[D]? = some (.cells (dkC vs vn vw d) 74 (0, 0))) (hp : Prt Q base w2 d vs vn vw) (ho : d.ok)
    (hxn : w2.ownsRow w1.heap.size 30 1 (.slice (some ⟨g, 0, none⟩) d.now.length c) d.now.length xn) (hdn : Dats Q w2 xn d.now) :
    Turn Q base w1 D S ((w2.setCell ⟨D, 0, none⟩ (.slice (some ⟨g, 0, none⟩) d.now.length c)).setCell ⟨D, 2, none⟩ (.slice none 0 0)) d.flush := by
  subst hS
  have kk : Kpt (fun b => b = D) w2 ((w2.setCell ⟨D, 0, none⟩ (.slice (some ⟨g, 0, none⟩) d.now.length c)).setCell ⟨D, 2, none⟩ (.slice none 0 0)) := (kpt_one _).trans (kpt_one _)
  have hgb := (own_row hxn (b := g) rfl).1
  have hp' : Prt Q base w2 d.flush (.slice (some ⟨g, 0, none⟩) d.now.length c) vn (.slice none 0 0) := by
    refine ⟨⟨xn, g, c, rfl, own_mono hxn hsz, hdn⟩, hp.n, ⟨[], World.ownsRow_nil w2 base _ 2, Dats.nil _⟩, ?_⟩
    intro e
    have := hin g (.inr (.inr (.inl (by rw [← e]; rfl))))
    omega
  refine ⟨foot D (.slice (some ⟨g, 0, none⟩) d.now.length c) vn (.slice none 0 0), refit hD hr kk hp' ho.flush ?_, (Kpt.of_below hb).trans (kk.mono (by rintro b rfl; exact .inl rfl)), ?_⟩
  · exact heap_setCell_same _ _ _ _ _ _ (heap_setCell_same _ _ _ _ _ _ hr)
  · rintro b (rfl | hb | hb | hb)
    · exact .inl (.inl rfl)
    · simp only [Value.ownBlock, Option.map_some, Option.some.injEq] at hb
      exact .inr (by omega)
    · exact .inl (.inr (.inr (.inl hb)))
    · simp [Value.ownBlock] at hb
theorem Flush_is {base : Nat} (w : World) (D : Nat) {S : Nat → Prop} {d : Dk} (h : IsDk Q base w D S d) :
    Calls Try.prog 26 #[ptr D] w fun e w' => e = .returned (.int .i64 d.stopE) ∧ Turn Q base w D S w' d.flD := by
  have HW := fun w => none_is (Q := Q) (base := base) w D (S := S) (d := d)
  have HS := fun w => stopped_is (Q := Q) (base := base) w D (S := S) (d := d)
  have hS := h.inS
  unfold ptr at *
  unfold Dk.flD
  by_cases hs : d.stopE = 0
  · simp only [ne_eq, hs, not_true, if_false]
    have HSS := hid hs
    generalize d.stopD = d1 at *
    clear hs
    go_enter Try.func26, Try.ntmps26
    go_wp2_with fail
    refine (HW _ h).mono ?_
    rintro e w' ⟨rfl, rfl⟩
    go_wp2_with fail
    refine (HS _ h).mono ?_
    rw [HSS.out]
    rintro e w1 ⟨rfl, h3, k3⟩
    obtain ⟨vs, gn, cn, vw, hSS, hD, hr4, hp4, ho4⟩ := h3.open_
    have hp4' := hp4
    obtain ⟨xn, gn', cn', q1, q2, q3⟩ := hp4'.n
    simp only [Value.slice.injEq, Option.some.injEq, Addr.mk.injEq, and_true, true_and] at q1
    obtain ⟨rfl, rfl⟩ := q1
    have C := fun w hr => CloneL_any w gn 0 cn d1.now.length xn (by rw [Nat.mul_one]; have := q2.1; omega) (by have := ho4.max; omega) hr (one_dats q3)
    obtain ⟨-, e1, -⟩ := nine hr4
    have hrd := RdV.own q2
    have hpos := ho4.pos
    have HR4 := hid hr4; have HP4 := hid hp4; have HO4 := hid ho4; have HQ3 := hid q3; have HSS2 := hid hSS; have H3 := hid h3
    clear hr4 hp4 hp4' ho4 hSS h3 q2 q3
    go_wp2_with fail
    refine (C _ hrd).mono ?_
    rintro e w2 ⟨A2, c2, rfl, g2, b2⟩
    obtain ⟨gd, c2', hx, hgd1, hgd2⟩ := own_slice' g2 hpos (by decide)
    simp only [Value.slice.injEq, true_and] at hx
    obtain ⟨rfl, rfl⟩ := hx
    have hr5 := (b2.block D (heap_in HR4.out)).trans HR4.out
    obtain ⟨e0, -, e2, -⟩ := nine hr5
    have f0 := frow hr5 0
    have f2 := frow hr5 2
    have T := flush_mem b2 (Nat.le_trans hD (Nat.le_of_lt (H3.out.blocks hS).2.1)) HSS2.out (fun b hb => (H3.out.blocks hb).2.1) hD hr5 (HP4.out.kpt (T := fun _ => False) (.of_below b2) (fun _ h => h.elim) (fun _ _ h => h) (fun _ _ h => h) (fun _ _ h => h)) HO4.out g2 (HQ3.out.below b2)
    have HT := hid T
    clear T hr5 g2 b2 hrd C HS HW
    go_wp2_with fail
    go_ret
    exact ⟨rfl, Turn.pre k3 hS HT.out⟩
  · simp only [ne_eq, hs, not_false_eq_true, if_true]
    go_enter Try.func26, Try.ntmps26
    go_wp2_with fail
    refine (HW _ h).mono ?_
    rintro e w' ⟨rfl, rfl⟩
    go_wp2_with fail
    refine (HS _ h).mono ?_
    rintro e w1 ⟨rfl, h3, k3⟩
    go_wp2
    go_ret
    exact ⟨rfl, Turn.of h3 k3 hS⟩
end Go.Proofs.Ytddejjmebokgiaa
