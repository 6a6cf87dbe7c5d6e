/- Disks in memory: stores into their rows; lists of bytes that are read. -/
import Derived.Test.YtddejjmebokgiaaDkB
import Derived.Deep.RegionLaw
namespace Go.Proofs.Ytddejjmebokgiaa
open Go.RowKit
variable {Q : Nat → Prop}
set_option maxHeartbeats 3200000
set_option maxRecDepth 100000
set_option linter.unusedVariables false
set_option linter.unusedSimpArgs false

/-- Bytes that are read, in a block of bytes. -/
def RdU (w : World) (a : Option Addr) (l : List UInt8) : Prop := l ≠ [] → ∃ x off, a = some ⟨x, off, none⟩ ∧ RdB w a l ∧ U8 w x
theorem RdU.rd {w : World} {a : Option Addr} {l : List UInt8} (h : RdU w a l) : RdB w a l := by
  by_cases hn : l = []
  · subst hn; exact RdB.nil w a
  · obtain ⟨x, off, rfl, h1, _⟩ := h hn
    exact h1
theorem RdU.kpt {S : Nat → Prop} {w w' : World} {a : Option Addr} {l : List UInt8} (h : RdU w a l) (k : Kpt S w w') (hs : ∀ b, S b → ¬ U8 w b) : RdU w' a l := by
  intro hn
  obtain ⟨x, off, rfl, h1, h2⟩ := h hn
  exact ⟨x, off, rfl, h1.kpt k (fun z => hs x z h2), h2.kpt k hs⟩
theorem RdU.below {w w' : World} {a : Option Addr} {l : List UInt8} (h : RdU w a l) (k : Below w.heap.size w w') : RdU w' a l := h.kpt (S := fun _ => False) (.of_below k) (fun _ h => h.elim)
theorem OwnB.rdu {base c : Nat} {w : World} {a : Option Addr} {l : List UInt8} (h : OwnB base w a c l) : RdU w a l := by
  intro hn
  obtain ⟨g, rfl, _, _⟩ := own_adr h hn
  exact ⟨g, 0, rfl, h.rd, h.u8⟩
theorem Dat.rdu {w : World} {v : Value} {l : List UInt8} (h : Dat Q w v l) : ∃ b off c, v = .slice (some ⟨b, off, none⟩) l.length c ∧ RdU w (some ⟨b, off, none⟩) l := by
  obtain ⟨b, off, c, rfl, h1, h2⟩ := h.rd
  exact ⟨b, off, c, rfl, fun _ => ⟨b, off, rfl, h1, h2⟩⟩

theorem own_ne {w : World} {base base' n n' size size' : Nat} {e e' : TypeId} {v v' : Value} {xs xs' : List Value} (h : w.ownsRow base e size v n xs) (h' : w.ownsRow base' e' size' v' n' xs') (he : e ≠ e') {b : Nat} (hb : v.ownBlock = some b) : ¬ v'.ownBlock = some b := by
  intro hb'
  obtain ⟨_, _, cs, r⟩ := own_row h hb
  obtain ⟨_, _, cs', r'⟩ := own_row h' hb'
  rw [r] at r'
  simp only [Option.some.injEq, Obj.cells.injEq] at r'
  exact he r'.2.1
theorem own_neD {w : World} {base n size D : Nat} {e t : TypeId} {v : Value} {xs : List Value} {cs : Array Value} (h : w.ownsRow base e size v n xs) (hr : w.heap[D]? = some (.cells cs t (0, 0))) (he : e ≠ t) {b : Nat} (hb : v.ownBlock = some b) : b ≠ D := by
  rintro rfl
  obtain ⟨_, _, cs', r⟩ := own_row h hb
  rw [r] at hr
  simp only [Option.some.injEq, Obj.cells.injEq] at hr
  exact he hr.2.1
theorem own_nou {w : World} {base n size : Nat} {e : TypeId} {v : Value} {xs : List Value} (h : w.ownsRow base e size v n xs) (he : e ≠ 5) {b : Nat} (hb : v.ownBlock = some b) : ¬ U8 w b := by
  obtain ⟨_, _, cs', r⟩ := own_row h hb
  exact row_not_u8 r he
theorem kpt_one {w : World} {g i : Nat} (u : Value) : Kpt (fun b => b = g) w (w.setCell ⟨g, i, none⟩ u) := Kpt.setCell (S := fun b => b = g) (Kpt.refl _ w) (p := ⟨g, i, none⟩) rfl u
/-- A store into the row of what stands. -/
theorem Prt.setNow {base : Nat} {w : World} {d : Dk} {vs vw : Value} {gn cn : Nat} (h : Prt Q base w d vs (.slice (some ⟨gn, 0, none⟩) d.now.length cn) vw) (i : Nat) {u : Value} {l : List UInt8} (hu : Dat Q w u l) :
    Prt Q base (w.setCell ⟨gn, i, none⟩ u) { d with now := d.now.set i l } vs (.slice (some ⟨gn, 0, none⟩) (d.now.set i l).length cn) vw := by
  obtain ⟨⟨xs, gs, cs, a1, a2, a3⟩, ⟨xn, gn', cn', b1, b2, b3⟩, ⟨xw, c1, c2⟩, hne⟩ := h
  simp only [Value.slice.injEq, Option.some.injEq, Addr.mk.injEq, and_true, true_and] at b1
  obtain ⟨rfl, rfl⟩ := b1
  have hno : ∀ b, b = gn → ¬ U8 w b := by rintro b rfl; exact own_nou b2 (by decide) rfl
  have st := World.ownsRow.stored b2 i u
  refine ⟨⟨xs, gs, cs, a1, own_kpt a2 (kpt_one u) ?_, a3.kpt (kpt_one u) hno⟩, ⟨xn.set i u, gn, cn, rfl, ?_, (b3.kpt (kpt_one u) hno).set i (hu.kpt (kpt_one u) hno)⟩, ⟨xw, own_kpt c1 (kpt_one u) ?_, c2.kpt (kpt_one u) hno⟩, ?_⟩
  · rintro b hb rfl
    exact hne (by rw [hb]; rfl)
  · simp only [List.length_set]
    exact st.1
  · rintro b hb rfl
    exact own_ne c1 b2 (by decide) hb rfl
  · simpa using hne
/-- A store into the row of what is durable. -/
theorem Prt.setSafe {base : Nat} {w : World} {d : Dk} {vn vw : Value} {gs cs : Nat} (h : Prt Q base w d (.slice (some ⟨gs, 0, none⟩) d.safe.length cs) vn vw) (i : Nat) {u : Value} {l : List UInt8} (hu : Dat Q w u l) :
    Prt Q base (w.setCell ⟨gs, i, none⟩ u) { d with safe := d.safe.set i l } (.slice (some ⟨gs, 0, none⟩) (d.safe.set i l).length cs) vn vw := by
  obtain ⟨⟨xs, gs', cs', a1, a2, a3⟩, ⟨xn, gn, cn, b1, b2, b3⟩, ⟨xw, c1, c2⟩, hne⟩ := h
  simp only [Value.slice.injEq, Option.some.injEq, Addr.mk.injEq, and_true, true_and] at a1
  obtain ⟨rfl, rfl⟩ := a1
  have hno : ∀ b, b = gs → ¬ U8 w b := by rintro b rfl; exact own_nou a2 (by decide) rfl
  have st := World.ownsRow.stored a2 i u
  refine ⟨⟨xs.set i u, gs, cs, rfl, ?_, (a3.kpt (kpt_one u) hno).set i (hu.kpt (kpt_one u) hno)⟩, ⟨xn, gn, cn, b1, own_kpt b2 (kpt_one u) ?_, b3.kpt (kpt_one u) hno⟩, ⟨xw, own_kpt c1 (kpt_one u) ?_, c2.kpt (kpt_one u) hno⟩, ?_⟩
  · simp only [List.length_set]
    exact st.1
  · rintro b hb rfl
    exact hne (by rw [hb]; rfl)
  · rintro b hb rfl
    exact own_ne c1 a2 (by decide) hb rfl
  · simpa using hne
/-- Another row of writes. -/
theorem Prt.newW {base : Nat} {w w' : World} {d : Dk} {vs vn vw vw' : Value} (h : Prt Q base w d vs vn vw) (k : Kpt (fun b => vw.ownBlock = some b) w w') {wn : List Nat} {wd : List (List UInt8)} {xw : List Value}
    (ho : w'.ownsRow base 78 2 vw' wn.length (wcells wn xw)) (hd : Dats Q w' xw wd) : Prt Q base w' { d with wn := wn, wd := wd } vs vn vw' := by
  obtain ⟨⟨xs, gs, cs, a1, a2, a3⟩, ⟨xn, gn, cn, b1, b2, b3⟩, ⟨xw0, c1, c2⟩, hne⟩ := h
  have hno : ∀ b, vw.ownBlock = some b → ¬ U8 w b := fun b hb => own_nou c1 (by decide) hb
  exact ⟨⟨xs, gs, cs, a1, own_kpt a2 k (fun b hb => own_ne a2 c1 (by decide) hb), a3.kpt k hno⟩, ⟨xn, gn, cn, b1, own_kpt b2 k (fun b hb => own_ne b2 c1 (by decide) hb), b3.kpt k hno⟩, ⟨xw, ho, hd⟩, hne⟩
theorem Prt.other {base D : Nat} {w w' : World} {d : Dk} {vs vn vw : Value} {cs : Array Value} (h : Prt Q base w d vs vn vw) (hr : w.heap[D]? = some (.cells cs 74 (0, 0))) (k : Kpt (fun b => b = D) w w') : Prt Q base w' d vs vn vw := by
  refine h.kpt k (by rintro b rfl; exact row_not_u8 hr (by decide)) ?_ ?_ ?_
  · obtain ⟨xs, gs, cs, a1, a2, a3⟩ := h.s
    exact fun b hb => own_neD a2 hr (by decide) hb
  · obtain ⟨xs, gs, cs, a1, a2, a3⟩ := h.n
    exact fun b hb => own_neD a2 hr (by decide) hb
  · obtain ⟨xs, a2, a3⟩ := h.w
    exact fun b hb => own_neD a2 hr (by decide) hb
/-- append, as a step of a region that draws its order: in place or anew. -/
theorem step_own2 {P : Program} {ops : Array Oper} {o : Oper} {a : Act} {W : World} {K : Act → World → Prop} {Q : Exit → Act → World → Prop} {E : Prop} (hgd : o.guard = none) (s x : Operand) (t e : TypeId) (z : Value) (size bytes : Nat)
    (ho : o.op = .call { callee := .builtin .append, args := #[s, x], argTypes := #[t, t] })
    (ht : P.underlying t = some (.slice e)) (hinfo : (P.info? e).map (fun i => (i.zero, i.size, i.bytes)) = some (some z, size, bytes)) (hzs : z.cells.size = size) (hsz : 0 < size) (hb0 : 0 < bytes)
    (base : Nat) (v : Value) (n : Nat) (xs : List Value) (hs : a.eval s = v) (HO : W.ownsRow base e size v n xs)
    (A : Option Addr) (m c : Nat) (ys : List Value) (hx : a.eval x = .slice A m c) (hl : ys.length = m * size) (HR : RdV W A ys) (h1 : ∀ u ∈ ys, u.oneCell' = true)
    (hbytes : ((n + m) + (n + m) / 4 + 192) * bytes ≤ 281474976710656) (hbase : base ≤ W.heap.size)
    (h : ∀ A1 c1 w1, w1.ownsRow base e size (.slice A1 (n + m) c1) (n + m) (xs ++ ys) → (((Value.slice A1 (n + m) c1).ownBlock = v.ownBlock ∧ W.grownBy w1 v.ownBlock) ∨ ((Value.slice A1 (n + m) c1).ownBlock = some W.heap.size ∧ Below W.heap.size W w1)) → K (a.put o.dst (.slice A1 (n + m) c1)) w1) :
    if Region.wanted o (yielded ops a.tmps) = true then Oper.wp P o a W K Q else E := by
  have hw : Region.wanted o (yielded ops a.tmps) = true := by simp [Region.wanted, hgd]
  rw [if_pos hw]
  obtain ⟨i0, hi, hz0, rfl, rfl⟩ := info_parts hinfo
  obtain ⟨v1, w1, hr, hown, hat⟩ := run_app2 (P := P) (W := W) t o.type e i0 z ht hi hz0 hzs hsz base v n xs HO A m c ys hl HR h1 hb0 hbytes hbase
  obtain ⟨A1, c1, rfl, _⟩ := own_slice hown
  unfold Oper.wp execOp
  simp only [ho, resolve, invoke, builtin, Sem.run_bind, Sem.run_pure, Result.andThen_ok, List.map_toArray, List.map_cons, List.map_nil, hs, hx, hr]
  exact h A1 c1 w1 hown hat
end Go.Proofs.Ytddejjmebokgiaa
