/- The document's disk: what it is in memory; its small functions. -/
import Derived.Test.YtddejjmebokgiaaLaw04j
import Derived.Test.YtddejjmebokgiaaLow
namespace Go.Proofs.Ytddejjmebokgiaa
open Go.RowKit
variable {Q : Nat → Prop}
set_option maxHeartbeats 3200000
set_option maxRecDepth 100000
set_option linter.unusedVariables false
set_option linter.unusedSimpArgs false

/-- What the document's marks say. -/
def Dk.am (d : Dk) : Int := if d.aon then d.aleft else -1
def Dk.fm (d : Dk) : Int := if d.fon then d.fleft else -1
/-- The document's disk, as a value. -/
def rfA (vs vw : Value) (d : Dk) : Value := .agg #[vs, vw, .int .i64 d.count, .bool d.down, .int .i64 d.am, .int .i64 d.fm]
/-- v is the document's disk; its lists lie in blocks F. -/
def IsRf (Q : Nat → Prop) (w : World) (F : Nat → Prop) (v : Value) (d : Dk) : Prop :=
  ∃ gs cs A c xs ys, v = rfA (.slice (some ⟨gs, 0, none⟩) d.safe.length cs) (.slice A d.wn.length c) d ∧ (∀ b, F b ↔ b = gs ∨ ∃ o, A = some ⟨b, o, none⟩) ∧ RdV w (some ⟨gs, 0, none⟩) xs ∧ RdV w A (wcells d.wn ys) ∧ Dats Q w xs d.safe ∧ Dats Q w ys d.wd ∧ (∀ b, F b → b < w.heap.size ∧ ¬ U8 w b)
/-- What is known of a disk that was played with. -/
structure Dk.fit (d : Dk) : Prop where
  ok : d.ok
  last : ∀ n, n < d.now.length → d.now.getD n [] = (sncT d d.wn.length n).getLastD []
  arm : d.aon = true → 0 ≤ d.aleft ∧ d.aleft ≤ 9223372036854775807
  flt : d.fon = true → 0 ≤ d.fleft ∧ d.fleft ≤ 9223372036854775807
theorem rdv_kpt {T : Nat → Prop} {w w' : World} {A : Option Addr} {xs : List Value} (h : RdV w A xs) (k : Kpt T w w') (hT : ∀ b o, A = some ⟨b, o, none⟩ → ¬ T b) : RdV w' A xs := by
  intro hn
  obtain ⟨b, o, e, hc⟩ := h hn
  refine ⟨b, o, e, fun j u hu => ?_⟩
  have h0 := hc j u hu
  have hlt := World.block_lt_of_cell? w _ h0
  exact (World.cell?_of_block (k.block b hlt (hT b o e))).trans h0
theorem IsRf.kptQ {T F : Nat → Prop} {w w' : World} {v : Value} {d : Dk} (h : IsRf Q w F v d) (k : Kpt T w w') (hT : ∀ b, Q b → ¬ T b) (hF : ∀ b, F b → ¬ T b) : IsRf Q w' F v d := by
  obtain ⟨gs, cs, A, c, xs, ys, e, hf, h1, h2, h3, h4, h5⟩ := h
  refine ⟨gs, cs, A, c, xs, ys, e, hf, rdv_kpt h1 k (fun b o e => hF b ((hf b).2 (.inl (by cases e; rfl)))), rdv_kpt h2 k (fun b o e => hF b ((hf b).2 (.inr ⟨o, e⟩))), h3.kptQ k hT, h4.kptQ k hT, fun b hb => ?_⟩
  obtain ⟨h6, h7⟩ := h5 b hb
  refine ⟨Nat.lt_of_lt_of_le h6 k.size, ?_⟩
  rintro ⟨q, hq⟩
  rw [k.block b h6 (hF b hb)] at hq
  exact h7 ⟨q, hq⟩
theorem IsRf.kpt {T F : Nat → Prop} {w w' : World} {v : Value} {d : Dk} (h : IsRf Q w F v d) (k : Kpt T w w') (hT : ∀ b, T b → ¬ U8 w b) (hF : ∀ b, F b → ¬ T b) : IsRf Q w' F v d := by
  obtain ⟨gs, cs, A, c, xs, ys, e, hf, h1, h2, h3, h4, h5⟩ := h
  refine ⟨gs, cs, A, c, xs, ys, e, hf, rdv_kpt h1 k (fun b o e => hF b ((hf b).2 (.inl (by cases e; rfl)))), rdv_kpt h2 k (fun b o e => hF b ((hf b).2 (.inr ⟨o, e⟩))), h3.kpt k hT, h4.kpt k hT, fun b hb => ?_⟩
  obtain ⟨h6, h7⟩ := h5 b hb
  refine ⟨Nat.lt_of_lt_of_le h6 k.size, ?_⟩
  rintro ⟨q, hq⟩
  rw [k.block b h6 (hF b hb)] at hq
  exact h7 ⟨q, hq⟩
theorem IsRf.below {F : Nat → Prop} {w w' : World} {v : Value} {d : Dk} (h : IsRf Q w F v d) (k : Below w.heap.size w w') : IsRf Q w' F v d := h.kpt (T := fun _ => False) (.of_below k) (fun _ h => h.elim) (fun _ _ h => h)
theorem IsRf.monoQ {Q' F : Nat → Prop} {w : World} {v : Value} {d : Dk} (h : IsRf Q w F v d) (hq : ∀ b, Q b → Q' b) : IsRf Q' w F v d := by
  obtain ⟨gs, cs, A, c, xs, ys, e, hf, h1, h2, h3, h4, h5⟩ := h
  exact ⟨gs, cs, A, c, xs, ys, e, hf, h1, h2, h3.monoQ hq, h4.monoQ hq, h5⟩
theorem IsRf.lt {F : Nat → Prop} {w : World} {v : Value} {d : Dk} (h : IsRf Q w F v d) : IsRf (fun b => Q b ∧ b < w.heap.size) w F v d := by
  obtain ⟨gs, cs, A, c, xs, ys, e, hf, h1, h2, h3, h4, h5⟩ := h
  exact ⟨gs, cs, A, c, xs, ys, e, hf, h1, h2, h3.lt, h4.lt, h5⟩
theorem drewN_below2 {B : Nat} {a w : World} (h : Below B a w) (n : Nat) : Below B a (w.drewN n) := ⟨h.os, h.tape, h.output, h.size, h.block⟩
theorem wrap_pred {x : Int} (h : 0 ≤ x) (h2 : x ≤ 9223372036854775807) : wrap64 (x - 1) = x - 1 := by unfold wrap64; omega
/-- An operation that goes by, on the document's side. -/
def opE (dn : Bool) (am fm : Int) : Int := if dn then 6 else if am = 0 then 6 else if fm = 0 then 4 else 0
def opM (dn : Bool) (x : Int) : Int := if dn then x else if 0 ≤ x then x - 1 else x
def opD (dn : Bool) (am : Int) : Bool := dn || decide (am = 0)
theorem operation_any (w : World) (A B : Option Addr) (n1 c1 n2 c2 : Nat) (c am fm : Int) (dn : Bool) (ha : am ≤ 9223372036854775807) (hf : fm ≤ 9223372036854775807) :
    Calls Try.prog 63 #[.agg #[.slice A n1 c1, .slice B n2 c2, .int .i64 c, .bool dn, .int .i64 am, .int .i64 fm]] w fun e w' => e = .returned (.tuple #[.agg #[.slice A n1 c1, .slice B n2 c2, .int .i64 c, .bool (opD dn am), .int .i64 (opM dn am), .int .i64 (opM dn fm)], .int .i64 (opE dn am fm)]) ∧ Below w.heap.size w w' := by
  cases dn
  · have z1 : (decide (am = 0)) = (am == 0) := by rw [Bool.eq_iff_iff]; simp
    have z2 : (decide (fm = 0)) = (fm == 0) := by rw [Bool.eq_iff_iff]; simp
    rcases za : (am == 0) <;> rcases zf : (fm == 0) <;> rcases ga : decide (0 ≤ am) <;> rcases gf : decide (0 ≤ fm)
    all_goals
      rw [za] at z1
      rw [zf] at z2
      go_enter Try.func63, Try.ntmps63
      go_wp2_with fail
      go_quiet (fail)
      go_wp2
      have o1 : opD false am = (am == 0) := by simp [opD, z1, za]
      have o2 : opM false am = if decide (0 ≤ am) then am - 1 else am := by simp only [opM, Bool.false_eq_true, if_false, decide_eq_true_eq]
      have o3 : opM false fm = if decide (0 ≤ fm) then fm - 1 else fm := by simp only [opM, Bool.false_eq_true, if_false, decide_eq_true_eq]
      have o4 : opE false am fm = if (am == 0) then 6 else if (fm == 0) then 4 else 0 := by simp only [opE, Bool.false_eq_true, if_false, beq_iff_eq]
      rw [za] at o1
      rw [ga] at o2
      rw [gf] at o3
      rw [za, zf] at o4
      simp only [if_true, Bool.false_eq_true, if_false] at o2 o3 o4
      rw [o1, o2, o3, o4]
      refine bodyPost_ret (v := .tuple #[.agg #[.slice A n1 c1, .slice B n2 c2, _, _, _, _], _]) ?_ rfl ⟨rfl, ?_⟩
      · simp [results, Try.results63, go_sem]
        all_goals
          simp only [decide_eq_true_eq] at ga gf
          first
          | exact ⟨wrap_pred ga ha, wrap_pred gf hf⟩
          | exact wrap_pred ga ha
          | exact wrap_pred gf hf
      · repeat' (first | (with_reducible refine Below.setCell ?_ (by simp) _) | (with_reducible refine drewN_below2 ?_ _) | (with_reducible refine Below.alloc ?_ (by simp) _) | (with_reducible exact Below.refl _ _))
  · go_enter Try.func63, Try.ntmps63
    go_wp2
    refine bodyPost_ret (v := .tuple #[.agg #[.slice A n1 c1, .slice B n2 c2, .int .i64 c, .bool true, .int .i64 am, .int .i64 fm], .int .i64 6]) ?_ rfl ⟨rfl, ?_⟩
    · simp [results, Try.results63, go_sem]
    · exact ((Below.refl _ w).alloc (Nat.le_refl _) _).alloc (by simp) _
theorem gate_law (on : Bool) (l : Int) (h : on = true → 0 ≤ l ∧ l ≤ 9223372036854775807) :
    (gStop on l = true ↔ (if on then l else -1) = 0) ∧ (if gOn on l then gLeft on l else -1) = (if 0 ≤ (if on then l else -1) then (if on then l else -1) - 1 else (if on then l else -1)) ∧ (gOn on l = true → 0 ≤ gLeft on l ∧ gLeft on l ≤ 9223372036854775807) := by
  cases on
  · simp [gStop, gOn, gLeft]
  · obtain ⟨h1, h2⟩ := h rfl
    have e := wrap_pred h1 h2
    simp only [gStop, gOn, gLeft, e, if_true, Bool.true_and, Bool.not_eq_true', decide_eq_false_iff_not, decide_eq_true_eq]
    refine ⟨by omega, ?_, by omega⟩
    rw [if_pos h1]
    split <;> omega
theorem rf_stop {d : Dk} (h : d.fit) : opE d.down d.am d.fm = d.stopE ∧ opD d.down d.am = d.stopD.down ∧ opM d.down d.am = d.stopD.am ∧ opM d.down d.fm = d.stopD.fm := by
  obtain ⟨a1, a2, a3⟩ := gate_law d.aon d.aleft h.arm
  obtain ⟨f1, f2, f3⟩ := gate_law d.fon d.fleft h.flt
  have ea : d.am = if d.aon then d.aleft else -1 := rfl
  have ef : d.fm = if d.fon then d.fleft else -1 := rfl
  rw [← ea] at a1 a2
  rw [← ef] at f1 f2
  rcases hd : d.down
  · by_cases g1 : gStop d.aon d.aleft = true
    · have z1 := a1.1 g1
      have e : d.stopD = { d.gone with down := true } := by simp only [Dk.stopD, hd, Bool.false_eq_true, if_false, g1, if_true]
      have e0 : d.stopE = 6 := by simp only [Dk.stopE, hd, Bool.false_eq_true, if_false, g1, if_true]
      rw [e, e0]
      refine ⟨by simp [opE, z1], by simp [opD, z1], ?_, ?_⟩
      · exact a2.symm
      · exact f2.symm
    · have z1 : ¬ d.am = 0 := fun x => g1 (a1.2 x)
      have e : d.stopD = d.gone := by simp only [Dk.stopD, hd, Bool.false_eq_true, if_false, g1]
      rw [e]
      refine ⟨?_, by simp [opD, z1, Dk.gone, hd], a2.symm, f2.symm⟩
      by_cases g2 : gStop d.fon d.fleft = true
      · have z2 := f1.1 g2
        simp only [Dk.stopE, hd, Bool.false_eq_true, if_false, g1, g2, if_true]
        simp [opE, z1, z2]
      · have z2 : ¬ d.fm = 0 := fun x => g2 (f1.2 x)
        simp only [Dk.stopE, hd, Bool.false_eq_true, if_false, g1, g2]
        simp [opE, z1, z2]
  · simp [opE, opD, opM, Dk.stopE, Dk.stopD, hd]
theorem fit_same {d x : Dk} (h : d.fit) (e1 : x.safe = d.safe) (e2 : x.now = d.now) (e3 : x.wn = d.wn) (e4 : x.wd = d.wd) (ha : x.aon = true → 0 ≤ x.aleft ∧ x.aleft ≤ 9223372036854775807) (hf : x.fon = true → 0 ≤ x.fleft ∧ x.fleft ≤ 9223372036854775807) : x.fit := by
  have h1 := h.ok
  refine ⟨⟨by rw [e1, e2]; exact h1.len, by rw [e2]; exact h1.pos, by rw [e2]; exact h1.max, by rw [e3, e4]; exact h1.wlen, by rw [e3]; exact h1.wmax, by rw [e3, e2]; exact h1.win, by rw [e1]; exact h1.s4, by rw [e2]; exact h1.n4, by rw [e4]; exact h1.w4⟩, ?_, ha, hf⟩
  intro k hk
  rw [e2] at hk ⊢
  rw [h.last k hk]
  unfold sncT
  rw [e1, e3, e4]
theorem fit_stop {d : Dk} (h : d.fit) : d.stopD.fit := by
  obtain ⟨e1, e2, e3, e4, e5⟩ := stopD_same d
  obtain ⟨a1, a2, a3⟩ := gate_law d.aon d.aleft h.arm
  obtain ⟨f1, f2, f3⟩ := gate_law d.fon d.fleft h.flt
  refine fit_same h e1 e2 e3 e4 ?_ ?_
  · unfold Dk.stopD
    split
    · exact h.arm
    · split
      · exact a3
      · exact a3
  · unfold Dk.stopD
    split
    · exact h.flt
    · split
      · exact f3
      · exact f3
end Go.Proofs.Ytddejjmebokgiaa
