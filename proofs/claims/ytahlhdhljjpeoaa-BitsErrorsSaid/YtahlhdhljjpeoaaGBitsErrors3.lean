/- Texts joined: PlB, Lay, Lay2, BtA. -/
import Derived.Deep.QuietTactic
import Derived.BigQuiet
import Derived.Test.YtahlhdhljjpeoaaGBitsErrors1
import Derived.Test.YtahlhdhljjpeoaaGBitsErrors2
/- Plain: Write (printed by gen24a.py). -/
namespace Go.Proofs.Ytahlhdhljjpeoaa
open Go.RowKit
variable {Q : Nat → Prop}
set_option maxHeartbeats 1500000
set_option maxRecDepth 100000
set_option linter.unusedVariables false
set_option linter.unusedSimpArgs false

theorem info_IN : (Try.prog.info? 3).map (fun i => (i.zero, i.size, i.bytes)) = some (some (.int .i64 0), 1, 8) := by kernel_rfl
def Pl.wrE (d : Pl) (n : Int) (l : List UInt8) : Int := if d.spent = true then 4 else if d.inB n = true then if l.length = 4096 then 0 else 2 else 70
def Pl.wrD (d : Pl) (n : Int) (l : List UInt8) : Pl := if d.spent = true then d.tick else if d.inB n = true then if l.length = 4096 then d.tick.put n.toNat l else d.tick else d.tick
theorem TurnP.of {base : Nat} {w w' : World} {P : Nat} {S : Nat → Prop} {d' : Pl} (h : IsPl Q base w' P S d') (k : Kpt (fun b => b = P) w w') (hS : S P) : TurnP Q base w P S w' d' :=
  ⟨S, h, k.mono (by rintro b rfl; exact hS), fun b hb => .inl hb⟩
theorem below_dr (w : World) : Below w.heap.size w w.drew := ⟨rfl, rfl, rfl, Nat.le_refl _, fun _ _ => rfl⟩
theorem RdB.kptN {S : Nat → Prop} {w w' : World} {a : Option Addr} {l : List UInt8} (h : RdB w a l) (k : Kpt S w w') (hs : ∀ b, a.map (·.block) = some b → ¬ S b) : RdB w' a l := by
  intro hn
  obtain ⟨b, off, rfl, hc⟩ := h hn
  exact ⟨b, off, rfl, fun j u hu => k.cell (hc j u hu) (hs b rfl)⟩
theorem Write_yes {base : Nat} (w : World) (P : Nat) {S : Nat → Prop} {d : Pl} (h : IsPl Q base w P S d) (hl : -100000000 ≤ d.left) (hQ : ∀ b, w.heap.size ≤ b → Q b) (m : Nat) (hm : m < d.b.length) (a : Option Addr) (c : Nat) (l : List UInt8) (h4 : l.length = 4096) (hr : RdB w a l) (hd : d.did ≤ 1000000) (hs : d.spent = false) (hPa : ∀ b, a.map (·.block) = some b → b ≠ P) :
    Calls Try.prog 46 #[.pointer (some ⟨P, 0, none⟩), .int .i64 (m : Int), .slice a 4096 c] w fun e w' => e = .returned (.int .i64 0) ∧ TurnP Q base w P S w' (d.tick.put m l) := by
  have SP := spent_is w P h hl
  have hin := h.inS
  have TB := hid (tick_b d).1; have TD := hid (tick_b d).2.2; have HL4 := hid h4; have hmI : (m : Int) < (d.b.length : Int) := by omega
  have hsz := hid h.lt
  rw [hs] at SP
  have HR := hid hr; have HPA := hid hPa; have HQ := hid hQ; have HBASE := hid (h.blocks hin).1
  clear h hs hr h4 hPa hQ
  go_enter Try.func46, Try.ntmps46
  go_wp2_with fail
  refine SP.mono ?_
  rintro e w1 ⟨rfl, h1, k1⟩
  have hr1 : RdB w1 a l := HR.out.kptN k1 (fun b hb e => HPA.out b hb e)
  have H1 := hid h1; have K1 := hid k1
  obtain ⟨gb, cb, vd, rfl, hr⟩ := h1.open4
  have HR1 := hid hr
  obtain ⟨q0, q1, q2, q3⟩ := four hr
  rw [TB.out] at q0
  have CB := CopyBytes_any w1.drew a c 4096 l HL4.out.symm (by have := HL4.out; omega) (hr1.below (below_dr w1))
  have sX : w1.drew.cell? ⟨P, 0, none⟩ = some (.slice (some ⟨gb, 0, none⟩) d.b.length cb) := q0
  -- what the two stores make
  have FIN : ∀ (w2 : World) (g c2 : Nat), OwnB w1.drew.heap.size w2 (some ⟨g, 0, none⟩) c2 l → Below w1.drew.heap.size w1.drew w2 →
      w2.cell? ⟨P, 0, none⟩ = some (.slice (some ⟨gb, 0, none⟩) d.b.length cb) ∧ (∃ x, w2.cell? ⟨gb, m, none⟩ = some x) ∧ w2.frozen? ⟨gb, m, none⟩ = false ∧
      ((w2.setCell ⟨gb, m, none⟩ (.slice (some ⟨g, 0, none⟩) 4096 c2)).cell? ⟨P, 0, none⟩ = some (.slice (some ⟨gb, 0, none⟩) d.b.length cb) ∧
        IsPl Q base (w2.setCell ⟨gb, m, none⟩ (.slice (some ⟨g, 0, none⟩) 4096 c2)) P (footP P (.slice (some ⟨gb, 0, none⟩) d.b.length cb) vd) { d.tick with b := d.b.set m l } ∧ Kpt (fun b => b = P ∨ b = gb) w (w2.setCell ⟨gb, m, none⟩ (.slice (some ⟨g, 0, none⟩) 4096 c2)) ∧
        (w2.setCell ⟨gb, m, none⟩ (.slice (some ⟨g, 0, none⟩) 4096 c2)).heap[P]? = some (.cells #[.slice (some ⟨gb, 0, none⟩) d.b.length cb, .bool d.tick.ends, .int .i64 d.tick.left, vd] 50 (0, 0))) := by
    intro w2 g c2 o2 b2
    have bd : Below w1.heap.size w1 w2 := (below_dr w1).trans (b2.mono (Nat.le_refl _))
    have h2 := H1.out.below bd
    have hr2 := (bd.block P (heap_in HR1.out)).trans HR1.out
    obtain ⟨y0, _, _, _⟩ := four hr2
    have hsw : w.heap.size ≤ w1.heap.size := K1.out.size
    have hg := o2.lt
    have hdat : Dat Q w2 (.slice (some ⟨g, 0, none⟩) 4096 c2) l := by
      have := Dat.own o2 (HQ.out g (by have e : w1.drew.heap.size = w1.heap.size := rfl; omega))
      rw [HL4.out] at this
      exact this
    have tb := TB.out
    obtain ⟨s1, s2, s3⟩ := IsPl.setB h2 hr2 m (by rw [tb]; exact hm) hdat HL4.out
    obtain ⟨vb', vd', _, _, hr', hp, _⟩ := h2
    rw [hr2] at hr'
    simp only [Option.some.injEq, Obj.cells.injEq, plC, Array.mk.injEq, List.cons.injEq, and_true, true_and] at hr'
    obtain ⟨rfl, rfl⟩ := hr'
    obtain ⟨xs, gb', cb', e1, e2, e3⟩ := hp.b
    simp only [Value.slice.injEq, Option.some.injEq, Addr.mk.injEq, and_true, true_and] at e1
    obtain ⟨rfl, rfl⟩ := e1
    obtain ⟨v, hv, _⟩ := e3.at_ (show m < d.tick.b.length by rw [tb]; exact hm)
    have m0 := World.ownsRow.cellAt e2 m (by rw [tb]; omega)
    rw [hv] at m0
    have f0 := World.ownsRow.frozenAt e2 m
    have s3' := s3
    obtain ⟨z0, _, _, _⟩ := four s3
    rw [tb] at y0 z0 s1 s3'
    refine ⟨y0, ⟨v, m0⟩, f0, z0, s1, ?_, s3'⟩
    exact ((K1.out.mono fun b hb => .inl hb).trans (Kpt.of_below bd)).trans (s2.mono fun b hb => .inr hb)
  have FIN := hid FIN
  clear SP k1 hr q1 q2 q3 h1 hr1
  go_wp2_with fail
  refine wp_region_held_drew (S := fun W1 => W1.cell? ⟨P, 0, none⟩ = some (.slice (some ⟨gb, 0, none⟩) d.b.length cb)) (by kernel_rfl) (by exact sX) (fun hHeld => ?_)
  refine wpAnyH_take (i := 0) (oi := ?o0z1) (v := ?v0z1) ?hi0z1 (by kernel_rfl) (by kernel_rfl) ?hr0z1 ?hQ0z1 ?hy0z1 hHeld ?r0z1
  case hi0z1 => (simp only [List.getElem?_toArray, List.getElem?_cons_zero, List.getElem?_cons_succ]; rfl)
  case hr0z1 => kernel_rfl
  case hQ0z1 => exact fun _ _ _ h => h
  case hy0z1 => (refine Or.inl ⟨by rfl, ?_⟩; intro w hSw; (try dsimp only at hSw); go_simp; try with_reducible rfl)
  try simp only [Act.put, List.setIfInBounds_toArray, List.set_cons_zero, List.set_cons_succ]
  refine wpAnyH_take (i := 1) (oi := ?o1z1) (v := ?v1z1) ?hi1z1 (by kernel_rfl) (by kernel_rfl) ?hr1z1 ?hQ1z1 ?hy1z1 hHeld ?r1z1
  case hi1z1 => (simp only [List.getElem?_toArray, List.getElem?_cons_zero, List.getElem?_cons_succ]; rfl)
  case hr1z1 => kernel_rfl
  case hQ1z1 => exact fun _ _ _ h => h
  case hy1z1 => (refine Or.inl ⟨by rfl, ?_⟩; intro w hSw; (try dsimp only at hSw); go_simp; try with_reducible rfl)
  try simp only [Act.put, List.setIfInBounds_toArray, List.set_cons_zero, List.set_cons_succ]
  refine wpAnyH_take (i := 2) (oi := ?o2z1) (v := ?v2z1) ?hi2z1 (by kernel_rfl) (by kernel_rfl) ?hr2z1 ?hQ2z1 ?hy2z1 hHeld ?r2z1
  case hi2z1 => (simp only [List.getElem?_toArray, List.getElem?_cons_zero, List.getElem?_cons_succ]; rfl)
  case hr2z1 => kernel_rfl
  case hQ2z1 => exact fun _ _ _ h => h
  case hy2z1 => (refine Or.inl ⟨by rfl, ?_⟩; intro w hSw; (try dsimp only at hSw); go_simp; try with_reducible rfl)
  try simp only [Act.put, List.setIfInBounds_toArray, List.set_cons_zero, List.set_cons_succ]
  refine wpAnyH_take (i := 3) (oi := ?o3z1) (v := ?v3z1) ?hi3z1 (by kernel_rfl) (by kernel_rfl) ?hr3z1 ?hQ3z1 ?hy3z1 hHeld ?r3z1
  case hi3z1 => (simp only [List.getElem?_toArray, List.getElem?_cons_zero, List.getElem?_cons_succ]; rfl)
  case hr3z1 => kernel_rfl
  case hQ3z1 => exact fun _ _ _ h => h
  case hy3z1 => (refine Or.inl ⟨by rfl, ?_⟩; intro w hSw; (try dsimp only at hSw); go_simp; try with_reducible rfl)
  try simp only [Act.put, List.setIfInBounds_toArray, List.set_cons_zero, List.set_cons_succ]
  refine wpAnyH_take (i := 4) (oi := ?o4z1) (v := ?v4z1) ?hi4z1 (by kernel_rfl) (by kernel_rfl) ?hr4z1 ?hQ4z1 ?hy4z1 hHeld ?r4z1
  case hi4z1 => (simp only [List.getElem?_toArray, List.getElem?_cons_zero, List.getElem?_cons_succ]; rfl)
  case hr4z1 => kernel_rfl
  case hQ4z1 => exact fun _ _ _ h => h
  case hy4z1 => (refine Or.inl ⟨by rfl, ?_⟩; intro w hSw; (try dsimp only at hSw); go_simp; try with_reducible rfl)
  try simp only [Act.put, List.setIfInBounds_toArray, List.set_cons_zero, List.set_cons_succ]
  refine wpAnyH_take (i := 5) (oi := ?o5z1) (v := ?v5z1) ?hi5z1 (by kernel_rfl) (by kernel_rfl) ?hr5z1 ?hQ5z1 ?hy5z1 hHeld ?r5z1
  case hi5z1 => (simp only [List.getElem?_toArray, List.getElem?_cons_zero, List.getElem?_cons_succ]; rfl)
  case hr5z1 => kernel_rfl
  case hQ5z1 => exact fun _ _ _ h => h
  case hy5z1 => (refine Or.inl ⟨by rfl, ?_⟩; intro w hSw; (try dsimp only at hSw); go_simp; try with_reducible rfl)
  try simp only [Act.put, List.setIfInBounds_toArray, List.set_cons_zero, List.set_cons_succ]
  refine wpAnyH_ready (rs := [6]) (by kernel_rfl) (by simp) (AllReadyH.cons (o := ?o6z1) ?hi6z1 (fun K hK => ?r6z1) AllReadyH.nil)
  case hi6z1 => (simp only [List.getElem?_toArray, List.getElem?_cons_zero, List.getElem?_cons_succ]; rfl)
  go_simp
  refine CB.mono ?_
  rintro e w2 ⟨A, c2, rfl, o2, b2⟩
  obtain ⟨g, rfl, hg1, hg2⟩ := own_adr o2 (by intro e; have := HL4.out; rw [e] at this; simp at this)
  obtain ⟨q02, ⟨v02, m02⟩, f02, STEP⟩ := FIN.out w2 g c2 o2 b2
  have STEP := hid STEP
  refine hK.out _ _ (by exact q02) (fun hHeld => ?_)
  clear hK K
  try simp only [Act.put, List.setIfInBounds_toArray, List.set_cons_zero, List.set_cons_succ]
  refine wpAnyH_take (i := 7) (oi := ?o7z1) (v := ?v7z1) ?hi7z1 (by kernel_rfl) (by kernel_rfl) ?hr7z1 ?hQ7z1 ?hy7z1 hHeld ?r7z1
  case hi7z1 => (simp only [List.getElem?_toArray, List.getElem?_cons_zero, List.getElem?_cons_succ]; rfl)
  case hr7z1 => kernel_rfl
  case hQ7z1 => exact fun _ _ _ h => h
  case hy7z1 => (refine Or.inl ⟨by rfl, ?_⟩; intro w hSw; (try dsimp only at hSw); go_simp; try with_reducible rfl)
  try simp only [Act.put, List.setIfInBounds_toArray, List.set_cons_zero, List.set_cons_succ]
  refine wpAnyH_ready (rs := [8]) (by kernel_rfl) (by simp) (AllReadyH.cons (o := ?o8z1) ?hi8z1 (fun K hK => ?r8z1) AllReadyH.nil)
  case hi8z1 => (simp only [List.getElem?_toArray, List.getElem?_cons_zero, List.getElem?_cons_succ]; rfl)
  go_simp
  refine hK.out _ _ (by exact STEP.out.1) (fun hHeld => ?_)
  clear hK K
  try simp only [Act.put, List.setIfInBounds_toArray, List.set_cons_zero, List.set_cons_succ]
  refine wpAnyH_done (by kernel_rfl) ?_ _
  obtain ⟨_, s1, k3, r3⟩ := STEP.out
  have s1' := s1
  obtain ⟨vb', vd', _, _, hr', hp, _⟩ := s1'
  rw [r3] at hr'
  simp only [Option.some.injEq, Obj.cells.injEq, plC, Array.mk.injEq, List.cons.injEq, and_true, true_and] at hr'
  obtain ⟨rfl, rfl⟩ := hr'
  obtain ⟨xd, A3, c3, rfl, e3⟩ := hp.d
  have e3 : (w2.setCell ⟨gb, m, none⟩ (.slice (some ⟨g, 0, none⟩) 4096 c2)).ownsRow base 3 1 (.slice A3 d.tick.did c3) d.tick.did xd := e3
  have td := TD.out
  have q3 := (four r3).2.2.2
  have hk3 : base ≤ (w2.setCell ⟨gb, m, none⟩ (.slice (some ⟨g, 0, none⟩) 4096 c2)).heap.size := by have := k3.size; have := HBASE.out; have := hsz.out; omega
  clear STEP hp q02 m02 f02 sX o2 b2 CB q0
  generalize (w2.setCell ⟨gb, m, none⟩ (.slice (some ⟨g, 0, none⟩) 4096 c2)) = w3 at *
  have S1 := hid s1; have K3 := hid k3; have R3 := hid r3
  have ba : Below w3.heap.size w3 (w3.alloc (.cells #[.int .i64 (m : Int)] 3)) := (Below.refl _ _).alloc (Nat.le_refl _) _
  have e4 := own_below e3 ba
  have E4 := hid e4
  have hk4 : base ≤ (w3.alloc (.cells #[.int .i64 (m : Int)] 3)).heap.size := Nat.le_trans hk3 ba.size
  have BA := hid ba
  rw [td] at *
  clear s1 k3 r3 e3 e4 ba
  go_wp2_with (with_reducible refine app_own rfl (.tmp 35) (.tmp 37) 36 3 (.int .i64 0) 1 8 rfl Try.underlying36 info_IN rfl (by decide) (by decide) base (.slice A3 d.did c3) d.did xd rfl E4.out (some ⟨w3.heap.size, 0, none⟩) 1 1 [.int .i64 (m : Int)] rfl rfl RdV.one (by simp [Value.oneCell']) (by omega) (w3.alloc (.cells #[.int .i64 (m : Int)] 3)) (Below.refl _ _) hk4 ?_
               intro A5 c5 w5 h5 h5b h5c h5d
               have K5 := Kpt.of_grown (S := fun b => (Value.slice A3 d.did c3).ownBlock = some b) h5c (fun j e => e)
               have r4 := (BA.out.block P (heap_in R3.out)).trans R3.out
               have r5 := (K5.block P (heap_in r4) (fun e => own_noT E4.out r4 (by decide) P e rfl)).trans r4
               have x3 := (four r5).2.2.2
               have f3 := frow r5 3)
  go_wp2
  go_ret
  refine ⟨rfl, ?_⟩
  have t5 := IsPl.setD (S1.out.below BA.out) r4 h5 K5 (fun b hb => by
    rcases h5d with h | h
    · exact .inl (h.symm.trans hb)
    · rw [hb] at h
      exact .inr (Nat.le_of_eq (Option.some.inj h).symm))
  have t6 := TurnP.trans ((K3.out.mono (T := footP P (.slice (some ⟨gb, 0, none⟩) d.b.length cb) (.slice A3 d.did c3)) (fun b hb => hb.elim .inl (fun h => .inr (.inl (by rw [h]; rfl))))).trans (Kpt.of_below BA.out)) (fun b hb => .inl hb) t5
  have e : d.tick.put m l = { b := d.b.set m l, ends := d.tick.ends, left := d.tick.left, did := d.did + 1 } := by
    unfold Pl.put
    rw [TB.out, TD.out]
  rw [e, TB.out, TD.out]
  exact t6
theorem Write_no {base : Nat} (w : World) (P : Nat) {S : Nat → Prop} {d : Pl} (h : IsPl Q base w P S d) (hl : -100000000 ≤ d.left) (n : Int) (a : Option Addr) (c N : Nat) (hs : d.spent = true) :
    Calls Try.prog 46 #[.pointer (some ⟨P, 0, none⟩), .int .i64 n, .slice a N c] w fun e w' => e = .returned (.int .i64 4) ∧ TurnP Q base w P S w' d.tick := by
  have SP := spent_is w P h hl
  have hin := h.inS
  rw [hs] at SP
  clear h
  go_enter Try.func46, Try.ntmps46
  go_wp2_with fail
  refine SP.mono ?_
  rintro e w1 ⟨rfl, h1, k1⟩
  clear SP
  go_wp2
  go_ret
  exact ⟨rfl, TurnP.of h1 k1 hin⟩
end Go.Proofs.Ytahlhdhljjpeoaa

/- Package layout, and the document's: the walks. -/
namespace Go.Proofs.Ytahlhdhljjpeoaa
open Go.RowKit
set_option maxHeartbeats 800000
set_option linter.unusedVariables false
set_option linter.unusedSimpArgs false

/-- A layout. -/
structure Lay where
  bl : Int
  lg : Int
  lb : Int
  bi : Int
  ino : Int
  ib : Int
  da : Int
deriving DecidableEq
def Lay.val (l : Lay) : Value := .agg #[.int .i64 l.bl, .int .i64 l.lg, .int .i64 l.lb, .int .i64 l.bi, .int .i64 l.ino, .int .i64 l.ib, .int .i64 l.da]
/-- Blocks of the ring. -/
def ringL (n : Int) : Int := max 16 (n / 8)
theorem ringL_bd {n : Int} (h1 : 64 ≤ n) (h2 : n ≤ 512) : 16 ≤ ringL n ∧ ringL n ≤ 64 ∧ (ringL n = 16 ∨ ringL n = n / 8) := by unfold ringL; omega
def okN (n : Int) : Bool := decide (64 ≤ n ∧ n ≤ 512)
def ofL (n : Int) : Lay := if okN n then ⟨n, 2, ringL n, 2 + ringL n, 2 + ringL n + 1, n / 16, 2 + ringL n + 1 + n / 16⟩ else ⟨0, 0, 0, 0, 0, 0, 0⟩
def errN (n : Int) : Int := if okN n then 0 else 2

theorem Of_any (w : World) (n : Int) :
    Calls Try.prog 97 #[.int .i64 n] w fun e w' => e = .returned (.tuple #[(ofL n).val, .int .i64 (errN n)]) ∧ Below w.heap.size w w' := by
  by_cases h1 : n < 64
  · have HH := hid (show ofL n = ⟨0, 0, 0, 0, 0, 0, 0⟩ ∧ errN n = 2 by simp [ofL, errN, okN]; omega)
    go_enter Try.func97, Try.ntmps97
    go_wp2
    rw [HH.out.1, HH.out.2]
    exact bodyPost_ret (v := .tuple #[(⟨0, 0, 0, 0, 0, 0, 0⟩ : Lay).val, .int .i64 2]) (by simp [results, Try.results97, go_sem, Lay.val]) rfl ⟨rfl, (Below.refl _ _).alloc (Nat.le_refl _) _⟩
  · by_cases h2 : 512 < n
    · have HH := hid (show ofL n = ⟨0, 0, 0, 0, 0, 0, 0⟩ ∧ errN n = 2 by simp [ofL, errN, okN]; omega)
      go_enter Try.func97, Try.ntmps97
      go_wp2
      rw [HH.out.1, HH.out.2]
      exact bodyPost_ret (v := .tuple #[(⟨0, 0, 0, 0, 0, 0, 0⟩ : Lay).val, .int .i64 2]) (by simp [results, Try.results97, go_sem, Lay.val]) rfl ⟨rfl, (Below.refl _ _).alloc (Nat.le_refl _) _⟩
    · have h64 : 64 ≤ n := by omega
      have h512 : n ≤ 512 := by omega
      have HH := hid (show ofL n = ⟨n, 2, ringL n, 2 + ringL n, 2 + ringL n + 1, n / 16, 2 + ringL n + 1 + n / 16⟩ ∧ errN n = 0 by simp [ofL, errN, okN, h64, h512])
      go_enter Try.func97, Try.ntmps97
      go_wp2
      all_goals
        first
        | (have hr : ringL n = 16 := by unfold ringL; omega
           rw [HH.out.1, HH.out.2, hr]
           exact bodyPost_ret (v := .tuple #[(⟨n, 2, 16, 2 + 16, 2 + 16 + 1, n / 16, 2 + 16 + 1 + n / 16⟩ : Lay).val, .int .i64 0]) (by simp [results, Try.results97, go_sem, Lay.val]) rfl ⟨rfl, ((Below.refl _ _).alloc (Nat.le_refl _) _).alloc (by simp) _⟩)
        | (have hr : ringL n = n / 8 := by unfold ringL; omega
           rw [HH.out.1, HH.out.2, hr]
           exact bodyPost_ret (v := .tuple #[(⟨n, 2, n / 8, 2 + n / 8, 2 + n / 8 + 1, n / 16, 2 + n / 8 + 1 + n / 16⟩ : Lay).val, .int .i64 0]) (by simp [results, Try.results97, go_sem, Lay.val]) rfl ⟨rfl, ((Below.refl _ _).alloc (Nat.le_refl _) _).alloc (by simp) _⟩)
theorem refOf_any (w : World) (n : Int) :
    Calls Try.prog 55 #[.int .i64 n] w fun e w' => e = .returned (.tuple #[(ofL n).val, .int .i64 (errN n)]) ∧ Below w.heap.size w w' := by
  by_cases h1 : n < 64
  · have HH := hid (show ofL n = ⟨0, 0, 0, 0, 0, 0, 0⟩ ∧ errN n = 2 by simp [ofL, errN, okN]; omega)
    go_enter Try.func55, Try.ntmps55
    go_wp2
    rw [HH.out.1, HH.out.2]
    exact bodyPost_ret (v := .tuple #[(⟨0, 0, 0, 0, 0, 0, 0⟩ : Lay).val, .int .i64 2]) (by simp [results, Try.results55, go_sem, Lay.val]) rfl ⟨rfl, (Below.refl _ _).alloc (Nat.le_refl _) _⟩
  · by_cases h2 : 512 < n
    · have HH := hid (show ofL n = ⟨0, 0, 0, 0, 0, 0, 0⟩ ∧ errN n = 2 by simp [ofL, errN, okN]; omega)
      go_enter Try.func55, Try.ntmps55
      go_wp2
      rw [HH.out.1, HH.out.2]
      exact bodyPost_ret (v := .tuple #[(⟨0, 0, 0, 0, 0, 0, 0⟩ : Lay).val, .int .i64 2]) (by simp [results, Try.results55, go_sem, Lay.val]) rfl ⟨rfl, (Below.refl _ _).alloc (Nat.le_refl _) _⟩
    · have h64 : 64 ≤ n := by omega
      have h512 : n ≤ 512 := by omega
      have HH := hid (show ofL n = ⟨n, 2, ringL n, 2 + ringL n, 2 + ringL n + 1, n / 16, 2 + ringL n + 1 + n / 16⟩ ∧ errN n = 0 by simp [ofL, errN, okN, h64, h512])
      go_enter Try.func55, Try.ntmps55
      go_wp2
      all_goals
        first
        | (have hr : ringL n = 16 := by unfold ringL; omega
           rw [HH.out.1, HH.out.2, hr]
           exact bodyPost_ret (v := .tuple #[(⟨n, 2, 16, 2 + 16, 2 + 16 + 1, n / 16, 2 + 16 + 1 + n / 16⟩ : Lay).val, .int .i64 0]) (by simp [results, Try.results55, go_sem, Lay.val]) rfl ⟨rfl, ((Below.refl _ _).alloc (Nat.le_refl _) _).alloc (by simp) _⟩)
        | (have hr : ringL n = n / 8 := by unfold ringL; omega
           rw [HH.out.1, HH.out.2, hr]
           exact bodyPost_ret (v := .tuple #[(⟨n, 2, n / 8, 2 + n / 8, 2 + n / 8 + 1, n / 16, 2 + n / 8 + 1 + n / 16⟩ : Lay).val, .int .i64 0]) (by simp [results, Try.results55, go_sem, Lay.val]) rfl ⟨rfl, ((Below.refl _ _).alloc (Nat.le_refl _) _).alloc (by simp) _⟩)
def rightL (l : Lay) : Bool := okN l.bl && decide (ofL l.bl = l)
/-- A cell of a block that is known, behind what was made since. -/
theorem cell_kept' {w : World} {g : Nat} {cs : Array Value} {t : TypeId} (h : w.heap[g]? = some (.cells cs t (0, 0))) (j : Nat) (v : Value) (hj : cs[j]? = some v) (o : Obj) : (w.alloc o).cell? ⟨g, j, none⟩ = some v := by
  have hlt : g < w.heap.size := by
    rcases Nat.lt_or_ge g w.heap.size with h' | h'
    · exact h'
    · rw [Array.getElem?_eq_none h'] at h; cases h
  rw [cell_of_row _ _ _ cs t (0, 0) ((heap_alloc_old w o hlt).trans h)]
  exact hj
theorem right_any (w : World) (l : Lay) :
    Calls Try.prog 102 #[l.val] w fun e w' => e = .returned (.bool (rightL l)) ∧ Below w.heap.size w w' := by
  have hof := fun w => Of_any w l.bl
  have hE := hid (show errN l.bl = if okN l.bl then 0 else 2 from rfl)
  obtain ⟨ok, hok⟩ : ∃ ok, ok = okN l.bl := ⟨_, rfl⟩
  have hR := hid (show rightL l = (okN l.bl && decide (ofL l.bl = l)) from rfl)
  rw [← hok] at hE hR
  obtain ⟨e, he⟩ : ∃ e, e = errN l.bl := ⟨_, rfl⟩
  obtain ⟨o, ho⟩ : ∃ o, o = ofL l.bl := ⟨_, rfl⟩
  rw [← ho] at hR hof
  rw [← he] at hE
  rw [← he] at hof
  clear he hok ho
  obtain ⟨a, b, c, d, f, g, k⟩ := l
  obtain ⟨a', b', c', d', f', g', k'⟩ := o
  simp only [Lay.val] at hof ⊢
  cases ok with
  | false =>
    have he := hE.out
    simp only [Bool.false_eq_true, if_false] at he
    subst he
    go_enter Try.func102, Try.ntmps102
    go_wp2_with fail
    refine (hof _).mono ?_
    rintro e w1 ⟨rfl, b1⟩
    have bw := ((Below.refl _ w).alloc (Nat.le_refl _) _).trans (b1.mono (by simp))
    clear b1
    go_wp2
    go_ret
    exact ⟨by rw [hR.out]; rfl, bw.alloc bw.size _⟩
  | true =>
    have he := hE.out
    simp only [if_true] at he
    subst he
    go_enter Try.func102, Try.ntmps102
    go_wp2_with fail
    refine (hof _).mono ?_
    rintro e w1 ⟨rfl, b1⟩
    have hg := (b1.block w.heap.size (by simp)).trans (heap_alloc_new w _)
    have c0 := cell_kept' hg 0 _ rfl
    have c1 := cell_kept' hg 1 _ rfl
    have c2 := cell_kept' hg 2 _ rfl
    have c3 := cell_kept' hg 3 _ rfl
    have c4 := cell_kept' hg 4 _ rfl
    have c5 := cell_kept' hg 5 _ rfl
    have c6 := cell_kept' hg 6 _ rfl
    have bw := ((Below.refl _ w).alloc (Nat.le_refl _) _).trans (b1.mono (by simp))
    clear hg b1
    go_wp2
    all_goals
      go_ret
      refine ⟨?_, bw.alloc bw.size _⟩
      rw [hR.out]
      show Ending.returned (Value.bool _) = Ending.returned (Value.bool _)
      congr 2
      rw [Bool.true_and]
      first
      | (refine (decide_eq_true ?_).symm; rw [Lay.mk.injEq]; omega)
      | (refine (decide_eq_false ?_).symm; rw [Lay.mk.injEq]; omega)
theorem layRefRight_any (w : World) (l : Lay) :
    Calls Try.prog 34 #[l.val] w fun e w' => e = .returned (.bool (rightL l)) ∧ Below w.heap.size w w' := by
  have hof := fun w => refOf_any w l.bl
  have hE := hid (show errN l.bl = if okN l.bl then 0 else 2 from rfl)
  obtain ⟨ok, hok⟩ : ∃ ok, ok = okN l.bl := ⟨_, rfl⟩
  have hR := hid (show rightL l = (okN l.bl && decide (ofL l.bl = l)) from rfl)
  rw [← hok] at hE hR
  obtain ⟨e, he⟩ : ∃ e, e = errN l.bl := ⟨_, rfl⟩
  obtain ⟨o, ho⟩ : ∃ o, o = ofL l.bl := ⟨_, rfl⟩
  rw [← ho] at hR hof
  rw [← he] at hE
  rw [← he] at hof
  clear he hok ho
  obtain ⟨a, b, c, d, f, g, k⟩ := l
  obtain ⟨a', b', c', d', f', g', k'⟩ := o
  simp only [Lay.val] at hof ⊢
  cases ok with
  | false =>
    have he := hE.out
    simp only [Bool.false_eq_true, if_false] at he
    subst he
    go_enter Try.func34, Try.ntmps34
    go_wp2_with fail
    refine (hof _).mono ?_
    rintro e w1 ⟨rfl, b1⟩
    have bw := ((Below.refl _ w).alloc (Nat.le_refl _) _).trans (b1.mono (by simp))
    clear b1
    go_wp2
    go_ret
    exact ⟨by rw [hR.out]; rfl, bw.alloc bw.size _⟩
  | true =>
    have he := hE.out
    simp only [if_true] at he
    subst he
    go_enter Try.func34, Try.ntmps34
    go_wp2_with fail
    refine (hof _).mono ?_
    rintro e w1 ⟨rfl, b1⟩
    have hg := (b1.block w.heap.size (by simp)).trans (heap_alloc_new w _)
    have c0 := cell_kept' hg 0 _ rfl
    have c1 := cell_kept' hg 1 _ rfl
    have c2 := cell_kept' hg 2 _ rfl
    have c3 := cell_kept' hg 3 _ rfl
    have c4 := cell_kept' hg 4 _ rfl
    have c5 := cell_kept' hg 5 _ rfl
    have c6 := cell_kept' hg 6 _ rfl
    have bw := ((Below.refl _ w).alloc (Nat.le_refl _) _).trans (b1.mono (by simp))
    clear hg b1
    go_wp2
    all_goals
      go_ret
      refine ⟨?_, bw.alloc bw.size _⟩
      rw [hR.out]
      show Ending.returned (Value.bool _) = Ending.returned (Value.bool _)
      congr 2
      rw [Bool.true_and]
      first
      | (refine (decide_eq_true ?_).symm; rw [Lay.mk.injEq]; omega)
      | (refine (decide_eq_false ?_).symm; rw [Lay.mk.injEq]; omega)
end Go.Proofs.Ytahlhdhljjpeoaa

/- Package layout, and the document's: Inode and Bit. -/
namespace Go.Proofs.Ytahlhdhljjpeoaa
open Go.RowKit
set_option maxHeartbeats 800000
set_option linter.unusedVariables false
set_option linter.unusedSimpArgs false

/-- What is known of a right one. -/
theorem right_bd {l : Lay} (h : rightL l = true) : (64 ≤ l.bl ∧ l.bl ≤ 512) ∧ l.lg = 2 ∧ (16 ≤ l.lb ∧ l.lb ≤ 64 ∧ (l.lb = 16 ∨ l.lb = l.bl / 8)) ∧ l.bi = 2 + l.lb ∧ l.ino = 3 + l.lb ∧ l.ib = l.bl / 16 ∧ l.da = 3 + l.lb + l.bl / 16 := by
  simp only [rightL, Bool.and_eq_true, decide_eq_true_eq] at h
  obtain ⟨h1, h2⟩ := h
  have h3 : ofL l.bl = _ := if_pos h1
  rw [h3] at h2
  have hb : 64 ≤ l.bl ∧ l.bl ≤ 512 := by simpa [okN] using h1
  have hr := ringL_bd hb.1 hb.2
  have q1 := congrArg Lay.lg h2; have q2 := congrArg Lay.lb h2; have q3 := congrArg Lay.bi h2; have q4 := congrArg Lay.ino h2; have q5 := congrArg Lay.ib h2; have q6 := congrArg Lay.da h2
  simp only at q1 q2 q3 q4 q5 q6
  omega
theorem right_lt {l : Lay} (h : rightL l = true) : (64 ≤ l.bl ∧ l.bl ≤ 512) ∧ (19 ≤ l.ino ∧ l.ino ≤ 67) ∧ (4 ≤ l.ib ∧ l.ib ≤ 32) := by
  have := right_bd h; omega
def inoOk (l : Lay) (n : Int) : Bool := rightL l && decide (1 ≤ n ∧ n ≤ l.ib * 64)
def inoB (l : Lay) (n : Int) : Int := if inoOk l n then l.ino + (n - 1) / 64 else 0
def inoA (l : Lay) (n : Int) : Int := if inoOk l n then (n - 1) % 64 * 64 else 0
def errI (l : Lay) (n : Int) : Int := if inoOk l n then 0 else 2
theorem ino_no {l : Lay} {n : Int} (h : inoOk l n = false) : inoB l n = 0 ∧ inoA l n = 0 ∧ errI l n = 2 := by simp [inoB, inoA, errI, h]
theorem ino_yes {l : Lay} {n : Int} (h : inoOk l n = true) : inoB l n = l.ino + (n - 1) / 64 ∧ inoA l n = (n - 1) % 64 * 64 ∧ errI l n = 0 := by simp [inoB, inoA, errI, h]
theorem cells7 {w w1 : World} {t : TypeId} {x0 x1 x2 x3 x4 x5 x6 : Value} (b : Below (w.alloc (.cells #[x0, x1, x2, x3, x4, x5, x6] t)).heap.size (w.alloc (.cells #[x0, x1, x2, x3, x4, x5, x6] t)) w1) :
    w1.cell? ⟨w.heap.size, 0, none⟩ = some x0 ∧ w1.cell? ⟨w.heap.size, 4, none⟩ = some x4 ∧ w1.cell? ⟨w.heap.size, 5, none⟩ = some x5 := by
  have hg := (b.block w.heap.size (by simp)).trans (heap_alloc_new w _)
  exact ⟨by rw [cell_of_row _ _ _ _ _ _ hg]; rfl, by rw [cell_of_row _ _ _ _ _ _ hg]; rfl, by rw [cell_of_row _ _ _ _ _ _ hg]; rfl⟩
theorem Inode_any (w : World) (l : Lay) (n : Int) (hn : -9223372036854775808 ≤ n ∧ n ≤ 9223372036854775807) :
    Calls Try.prog 100 #[l.val, .int .i64 n] w fun e w' => e = .returned (.tuple #[.int .i64 (inoB l n), .int .i64 (inoA l n), .int .i64 (errI l n)]) ∧ Below w.heap.size w w' := by
  have R := fun w => right_any w l
  by_cases hR : rightL l = true
  · have hbd := right_lt hR
    rw [hR] at R
    by_cases hin : 1 ≤ n ∧ n ≤ l.ib * 64
    · have HI := hid (ino_yes (l := l) (n := n) (by simp [inoOk, hR, hin]))
      clear hR
      obtain ⟨a, b, c, d, f, g, k⟩ := l
      simp only [Lay.val] at *
      go_enter Try.func100, Try.ntmps100
      go_wp2_with fail
      refine (R _).mono ?_
      rintro e w1 ⟨rfl, b1⟩
      obtain ⟨c0, c4, c5⟩ := cells7 b1
      have bw := ((Below.refl _ w).alloc (Nat.le_refl _) _).trans (b1.mono (by simp))
      clear b1
      go_wp2
      go_ret3
      exact ⟨by rw [HI.out.1, HI.out.2.1, HI.out.2.2]; rfl, bw⟩
    · have HI := hid (ino_no (l := l) (n := n) (by simp [inoOk, hR]; omega))
      clear hR
      obtain ⟨a, b, c, d, f, g, k⟩ := l
      simp only [Lay.val] at *
      by_cases hlo : n < 1
      all_goals
        go_enter Try.func100, Try.ntmps100
        go_wp2_with fail
        refine (R _).mono ?_
        rintro e w1 ⟨rfl, b1⟩
        obtain ⟨c0, c4, c5⟩ := cells7 b1
        have bw := ((Below.refl _ w).alloc (Nat.le_refl _) _).trans (b1.mono (by simp))
        clear b1
        go_wp2
        go_ret3
        exact ⟨by rw [HI.out.1, HI.out.2.1, HI.out.2.2]; rfl, bw⟩
  · have hR := eq_false_of_ne_true hR
    have HI := hid (ino_no (l := l) (n := n) (by simp [inoOk, hR]))
    rw [hR] at R
    clear hR
    obtain ⟨a, b, c, d, f, g, k⟩ := l
    simp only [Lay.val] at *
    go_enter Try.func100, Try.ntmps100
    go_wp2_with fail
    refine (R _).mono ?_
    rintro e w1 ⟨rfl, b1⟩
    obtain ⟨c0, c4, c5⟩ := cells7 b1
    have bw := ((Below.refl _ w).alloc (Nat.le_refl _) _).trans (b1.mono (by simp))
    clear b1
    go_wp2
    go_ret3
    exact ⟨by rw [HI.out.1, HI.out.2.1, HI.out.2.2]; rfl, bw⟩

set_option maxRecDepth 100000 in
theorem refInode_any (w : World) (l : Lay) (n : Int) (hn : -9223372036854775808 ≤ n ∧ n ≤ 9223372036854775807) :
    Calls Try.prog 104 #[l.val, .int .i64 n] w fun e w' => e = .returned (.tuple #[.int .i64 (inoB l n), .int .i64 (inoA l n), .int .i64 (errI l n)]) ∧ Below w.heap.size w w' := by
  have R := fun w => layRefRight_any w l
  by_cases hR : rightL l = true
  · have hbd := right_lt hR
    rw [hR] at R
    have HY := hid (fun h => ino_yes (l := l) (n := n) (by simpa [inoOk, hR] using h))
    have HN := hid (fun h => ino_no (l := l) (n := n) (by simpa [inoOk, hR] using h))
    clear hR
    obtain ⟨a, b, c, d, f, g, k⟩ := l
    simp only [Lay.val] at *
    obtain ⟨g, rfl⟩ := Int.eq_ofNat_of_zero_le (show 0 ≤ g by omega)
    go_enter Try.func104, Try.ntmps104
    go_wp2_with fail
    refine (R _).mono ?_
    rintro e w1 ⟨rfl, b1⟩
    obtain ⟨c0, c4, c5⟩ := cells7 b1
    have bw := ((Below.refl _ w).alloc (Nat.le_refl _) _).trans (b1.mono (by simp))
    clear b1 c0
    go_wp2
    go_loop [7, 8, 9] (fun x y z => ∃ k : Nat, k ≤ g ∧ y = .int .i64 (f + (k : Int)) ∧ x = .int .i64 (1 + 64 * (k : Int)) ∧ (n < 1 ∨ 64 * (k : Int) < n)) (fun _ y _ => g - (intOf y - f).toNat)
    case atStart => exact ⟨0, by omega, by simp, by simp, by omega⟩
    case round =>
      obtain ⟨k, hk, rfl, rfl, hne⟩ := hrel
      by_cases hlt : k < g
      · go_wp2
        go_loop [7, 9] (fun x z => ∃ j : Nat, j ≤ 64 ∧ z = .int .i64 (64 * (j : Int)) ∧ x = .int .i64 (1 + 64 * (k : Int) + (j : Int)) ∧ (n < 1 ∨ 64 * (k : Int) + (j : Int) < n)) (fun _ z => 64 - (intOf z / 64).toNat)
        case atStart => exact ⟨0, by omega, by simp, by simp, by omega⟩
        case round =>
          obtain ⟨j, hj, rfl, rfl, hne⟩ := hrel
          by_cases hj2 : j < 64
          · by_cases he : 1 + 64 * (k : Int) + (j : Int) = n
            · go_wp2
              go_ret3
              obtain ⟨q1, q2, q3⟩ := HY.out ⟨by omega, by omega⟩
              refine ⟨?_, bw⟩
              rw [q1, q2, q3, show (n - 1) / 64 = (k : Int) by omega, show (n - 1) % 64 * 64 = 64 * (j : Int) by omega]
              rfl
            · go_wp2
              go_round
              case rel => exact ⟨j + 1, by omega, by go_num, by go_num, by omega⟩
              case measure => simp [intOf]; omega
          · go_wp2
            go_round
            case rel => exact ⟨k + 1, by omega, by go_num, by go_num, by omega⟩
            case measure => simp [intOf]; omega
      · go_wp2
        go_ret3
        obtain ⟨q1, q2, q3⟩ := HN.out (fun h => by omega)
        exact ⟨by rw [q1, q2, q3]; rfl, bw⟩
  · have hR := eq_false_of_ne_true hR
    have HI := hid (ino_no (l := l) (n := n) (by simp [inoOk, hR]))
    rw [hR] at R
    clear hR
    obtain ⟨a, b, c, d, f, g, k⟩ := l
    simp only [Lay.val] at *
    go_enter Try.func104, Try.ntmps104
    go_wp2_with fail
    refine (R _).mono ?_
    rintro e w1 ⟨rfl, b1⟩
    obtain ⟨c0, c4, c5⟩ := cells7 b1
    have bw := ((Below.refl _ w).alloc (Nat.le_refl _) _).trans (b1.mono (by simp))
    clear b1
    go_wp2
    go_ret3
    exact ⟨by rw [HI.out.1, HI.out.2.1, HI.out.2.2]; rfl, bw⟩
def bitOk (l : Lay) (n : Int) : Bool := decide (0 ≤ n ∧ n < l.bl)
def bitB (l : Lay) (n : Int) : Int := if rightL l && bitOk l n then n / 8 else 0
def bitV (l : Lay) (n : Int) : Nat := if rightL l && bitOk l n then 2 ^ (n % 8).toNat else 0
def errB (l : Lay) (n : Int) : Int := if rightL l then if bitOk l n then 0 else 70 else 2
theorem bit_wrong {l : Lay} {n : Int} (h : rightL l = false) : bitB l n = 0 ∧ bitV l n = 0 ∧ errB l n = 2 := by simp [bitB, bitV, errB, h]
theorem bit_no {l : Lay} {n : Int} (h : rightL l = true) (h2 : bitOk l n = false) : bitB l n = 0 ∧ bitV l n = 0 ∧ errB l n = 70 := by simp [bitB, bitV, errB, h, h2]
theorem bit_yes {l : Lay} {n : Int} (h : rightL l = true) (h2 : bitOk l n = true) : bitB l n = n / 8 ∧ bitV l n = 2 ^ (n % 8).toNat ∧ errB l n = 0 := by simp [bitB, bitV, errB, h, h2]
theorem pow_bit (m : Nat) : ((2 ^ ((m : Int) % 8).toNat : Nat) : Int) = (2 : Int) ^ (m % 8) % 256 := by
  have h : ∀ r, r < 8 → ((2 ^ r : Nat) : Int) = (2 : Int) ^ r % 256 := by decide
  rw [show ((m : Int) % 8).toNat = m % 8 by omega]
  exact h _ (by omega)
theorem below_drewN' {B : Nat} {a w : World} (h : Below B a w) (n : Nat) : Below B a (w.drewN n) := ⟨h.os, h.tape, h.output, h.size, h.block⟩
set_option maxRecDepth 100000 in
theorem Bit_any (w : World) (l : Lay) (n : Int) (hn : -9223372036854775808 ≤ n ∧ n ≤ 9223372036854775807) :
    Calls Try.prog 65 #[l.val, .int .i64 n] w fun e w' => e = .returned (.tuple #[.int .i64 (bitB l n), .int .u8 (bitV l n : Nat), .int .i64 (errB l n)]) ∧ Below w.heap.size w w' := by
  have R := fun w => right_any w l
  by_cases hR : rightL l = true
  · have hbd := (right_lt hR).1
    rw [hR] at R
    by_cases hin : 0 ≤ n ∧ n < l.bl
    · have HI := hid (bit_yes hR (l := l) (n := n) (by simp [bitOk, hin]))
      clear hR
      obtain ⟨a, b, c, d, f, g, k⟩ := l
      simp only [Lay.val] at *
      obtain ⟨m, rfl⟩ := Int.eq_ofNat_of_zero_le hin.1
      go_enter Try.func65, Try.ntmps65
      go_wp2_with fail
      refine (R _).mono ?_
      rintro e w1 ⟨rfl, b1⟩
      obtain ⟨c0, c4, c5⟩ := cells7 b1
      have bw := ((Below.refl _ w).alloc (Nat.le_refl _) _).trans (b1.mono (by simp))
      clear b1
      go_wp2
      go_quiet (fail)
      go_wp2
      go_ret3
      rw [HI.out.1, HI.out.2.1, HI.out.2.2, pow_bit m]
      exact ⟨rfl, below_drewN' bw _⟩
    · have HI := hid (bit_no hR (l := l) (n := n) (by simp [bitOk]; omega))
      clear hR
      obtain ⟨a, b, c, d, f, g, k⟩ := l
      simp only [Lay.val] at *
      by_cases hlo : n < 0
      all_goals
        go_enter Try.func65, Try.ntmps65
        go_wp2_with fail
        refine (R _).mono ?_
        rintro e w1 ⟨rfl, b1⟩
        obtain ⟨c0, c4, c5⟩ := cells7 b1
        have bw := ((Below.refl _ w).alloc (Nat.le_refl _) _).trans (b1.mono (by simp))
        clear b1
        go_wp2
        go_ret3
        exact ⟨by rw [HI.out.1, HI.out.2.1, HI.out.2.2]; rfl, bw⟩
  · have hR := eq_false_of_ne_true hR
    have HI := hid (bit_wrong (l := l) (n := n) hR)
    rw [hR] at R
    clear hR
    obtain ⟨a, b, c, d, f, g, k⟩ := l
    simp only [Lay.val] at *
    go_enter Try.func65, Try.ntmps65
    go_wp2_with fail
    refine (R _).mono ?_
    rintro e w1 ⟨rfl, b1⟩
    obtain ⟨c0, c4, c5⟩ := cells7 b1
    have bw := ((Below.refl _ w).alloc (Nat.le_refl _) _).trans (b1.mono (by simp))
    clear b1
    go_wp2
    go_ret3
    exact ⟨by rw [HI.out.1, HI.out.2.1, HI.out.2.2]; rfl, bw⟩
end Go.Proofs.Ytahlhdhljjpeoaa

/- bits: inodes, wrong. -/
namespace Go.Proofs.Ytahlhdhljjpeoaa
open Go.RowKit
variable {Q : Nat → Prop}
set_option maxHeartbeats 1500000
set_option maxRecDepth 100000
set_option linter.unusedVariables false
set_option linter.unusedSimpArgs false

/-- A space as the packages take it. -/
def spV (P : Nat) : Value := .iface 37 (.pointer (some ⟨P, 0, none⟩))
theorem rdB_len {d : Pl} (ho : d.ok) (n : Int) : (d.rdE n = 0 ∧ (d.rdB n).length = 4096) ∨ (d.rdE n ≠ 0 ∧ d.rdB n = []) := by
  unfold Pl.rdE Pl.rdB
  split
  · exact .inr ⟨by decide, rfl⟩
  · split
    · rename_i h
      have h' := of_decide_eq_true h
      have hm : n.toNat < d.b.length := by omega
      refine .inl ⟨rfl, ?_⟩
      rw [List.getD_eq_getElem?_getD, List.getElem?_eq_getElem hm]
      exact ho.b4 _ (List.getElem_mem hm)
    · exact .inr ⟨by decide, rfl⟩
theorem inodes_is {base : Nat} (w : World) (P : Nat) {S : Nat → Prop} {d : Pl} (h : IsPl Q base w P S d) (hl : -100000000 ≤ d.left) (n : Int) (hn : -9223372036854775808 ≤ n ∧ n ≤ 9223372036854775807) :
    Calls Try.prog 56 #[spV P, .int .i64 n] w fun e w' => (∃ A c N, e = .returned (.tuple #[.slice A N c, .int .i64 (d.rdE n)]) ∧ N = (d.rdB n).length ∧ OwnB w.heap.size w' A c (d.rdB n)) ∧ IsPl Q base w' P S d.tick ∧ Kpt S w w' := by
  have RD := Read_is w P h hl n hn
  have hc := rdB_len h.ok n
  unfold spV
  go_enter Try.func56, Try.ntmps56
  go_wp2_with fail
  refine RD.mono ?_
  rintro e w1 ⟨⟨A, c, N, rfl, hN, ho⟩, hi, hk⟩
  have HO := hid ho; have HI := hid hi; have HK := hid hk; have HN := hid hN
  clear RD ho hi hk h
  rcases hc with ⟨h1, h2⟩ | ⟨h1, h2⟩
  · have HL := hid h2; have HE := hid h1
    rw [h1]
    rw [h2] at hN
    subst hN
    clear h1 h2
    go_wp2
    refine bodyPost_ret (v := .tuple #[.slice A 4096 c, .int .i64 0]) (by simp [results, Try.results56, go_sem]) rfl ⟨⟨A, c, 4096, by rw [HE.out], HL.out.symm, HO.out⟩, HI.out, HK.out⟩
  · have hb : (d.rdE n == 0) = false := by simpa using h1
    have HL := hid h2
    rw [h2] at hN
    simp only [List.length_nil] at hN
    subst hN
    obtain ⟨x, hx⟩ : ∃ x, x = d.rdE n := ⟨_, rfl⟩
    rw [← hx] at hb ⊢
    have HX := hid hx
    clear h1 h2 hx
    go_wp2
    refine bodyPost_ret (v := .tuple #[.slice A 0 c, .int .i64 x]) (by simp [results, Try.results56, go_sem]) rfl ⟨⟨A, c, 0, by rw [HX.out], by rw [HL.out]; rfl, HO.out⟩, HI.out, HK.out⟩
/-- Is it no layout? -/
def wrgE (l : Lay) : Int := if rightL l = true then 0 else 2
theorem bitsWrong_any (w : World) (P : Nat) (l : Lay) :
    Calls Try.prog 59 #[spV P, l.val] w fun e w' => e = .returned (.int .i64 (wrgE l)) ∧ Below w.heap.size w w' := by
  have hof := fun w => Of_any w l.bl
  have hE := hid (show errN l.bl = if okN l.bl then 0 else 2 from rfl)
  obtain ⟨ok, hok⟩ : ∃ ok, ok = okN l.bl := ⟨_, rfl⟩
  have hR := hid (show rightL l = (okN l.bl && decide (ofL l.bl = l)) from rfl)
  rw [← hok] at hE hR
  obtain ⟨e, he⟩ : ∃ e, e = errN l.bl := ⟨_, rfl⟩
  obtain ⟨o, ho⟩ : ∃ o, o = ofL l.bl := ⟨_, rfl⟩
  rw [← ho] at hR hof
  rw [← he] at hE
  rw [← he] at hof
  clear he hok ho
  obtain ⟨a, b, c, d, f, g, k⟩ := l
  obtain ⟨a', b', c', d', f', g', k'⟩ := o
  simp only [Lay.val, spV] at hof ⊢
  cases ok with
  | false =>
    have he := hE.out
    simp only [Bool.false_eq_true, if_false] at he
    subst he
    go_enter Try.func59, Try.ntmps59
    go_wp2_with fail
    refine (hof _).mono ?_
    rintro e w1 ⟨rfl, b1⟩
    have bw := ((Below.refl _ w).alloc (Nat.le_refl _) _).trans (b1.mono (by simp))
    clear b1
    go_wp2
    go_ret
    exact ⟨by rw [wrgE, hR.out]; rfl, bw.alloc bw.size _⟩
  | true =>
    have he := hE.out
    simp only [if_true] at he
    subst he
    go_enter Try.func59, Try.ntmps59
    go_wp2_with fail
    refine (hof _).mono ?_
    rintro e w1 ⟨rfl, b1⟩
    have hg := (b1.block w.heap.size (by simp)).trans (heap_alloc_new w _)
    have c0 := cell_kept' hg 0 _ rfl
    have c1 := cell_kept' hg 1 _ rfl
    have c2 := cell_kept' hg 2 _ rfl
    have c3 := cell_kept' hg 3 _ rfl
    have c4 := cell_kept' hg 4 _ rfl
    have c5 := cell_kept' hg 5 _ rfl
    have c6 := cell_kept' hg 6 _ rfl
    have bw := ((Below.refl _ w).alloc (Nat.le_refl _) _).trans (b1.mono (by simp))
    clear hg b1
    go_wp2
    all_goals
      go_ret
      refine ⟨?_, bw.alloc bw.size _⟩
      rw [wrgE, hR.out]
      first
      | (rw [Bool.true_and, if_pos (decide_eq_true (by rw [Lay.mk.injEq]; omega))]; done)
      | (rw [Bool.true_and, if_pos (decide_eq_true (by rw [Lay.mk.injEq]; omega))]; rfl)
      | (rw [Bool.true_and, if_neg (by intro h; have h := of_decide_eq_true h; rw [Lay.mk.injEq] at h; omega)]; done)
      | (rw [Bool.true_and, if_neg (by intro h; have h := of_decide_eq_true h; rw [Lay.mk.injEq] at h; omega)]; rfl)
end Go.Proofs.Ytahlhdhljjpeoaa
