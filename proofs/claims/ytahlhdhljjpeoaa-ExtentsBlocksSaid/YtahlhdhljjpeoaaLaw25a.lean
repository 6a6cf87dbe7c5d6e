/- of and awake of law 25 (printed by gen25e.py). -/
import Derived.Test.YtahlhdhljjpeoaaExG
import Derived.Deep.QuietTactic
import Derived.BigQuiet
namespace Go.Proofs.Ytahlhdhljjpeoaa
open Go.RowKit
set_option maxHeartbeats 3200000
set_option maxRecDepth 100000
set_option linter.unusedVariables false
set_option linter.unusedSimpArgs false

theorem step_ext {ops : Array Oper} {o : Oper} {a : Act} {W : World} {K : Act → World → Prop} {Q : Exit → Act → World → Prop} {E : Prop} (hgd : o.guard = none) (s x : Operand)
    (ho : o.op = .call { callee := .builtin .append, args := #[s, x], argTypes := #[22, 22] })
    (base : Nat) (A0 : Option Addr) (c0 n0 : Nat) (l : List Ext) (hn0 : n0 = l.length) (hs : a.eval s = .slice A0 n0 c0) (HO : OwnX base W A0 c0 l)
    (A : Option Addr) (m c : Nat) (r : List Ext) (hx : a.eval x = .slice A m c) (hl : m = r.length) (HR : RdX W A r)
    (n1 : Nat) (hn1 : n1 = l.length + r.length) (hbytes : l.length + r.length ≤ 7000000000000) (w0 : World) (hB : Below base w0 W) (hbase : base ≤ W.heap.size)
    (h : ∀ A1 c1 w1, OwnX base w1 A1 c1 (l ++ r) → Below base w0 w1 → K (a.put o.dst (.slice A1 n1 c1)) w1) :
    if Region.wanted o (yielded ops a.tmps) = true then Oper.wp Try.prog o a W K Q else E := by
  have hw : Region.wanted o (yielded ops a.tmps) = true := by simp [Region.wanted, hgd]
  rw [if_pos hw]
  subst hl hn0 hn1
  obtain ⟨i0, hi, hz0, hz1, hz2⟩ := info_parts info_ext
  obtain ⟨v1, w1, hr, hown, hg, hat⟩ := run_app (P := Try.prog) (W := W) 22 o.type 24 i0 (.agg #[.int .i64 0, .int .i64 0, .int .i64 0]) Try.underlying22 hi hz0 (by rw [hz1]; rfl) (by rw [hz1]; decide) base _ l.length (extCells l) (by rw [hz1]; exact HO) A r.length c (extCells r) (by rw [hz1, extCells_length]; omega) HR (extCells_one r) (by rw [hz2]; decide) (by rw [hz2]; omega) hbase
  rw [hz1] at hown
  obtain ⟨A1, c1, rfl, _⟩ := own_slice hown
  unfold Oper.wp execOp
  simp only [ho, resolve, invoke, builtin, Sem.run_bind, Sem.run_pure, Result.andThen_ok, List.map_toArray, List.map_cons, List.map_nil, hs, hx, hr]
  refine h A1 c1 w1 ?_ (hB.grown hg hbase (own_base HO))
  unfold OwnX
  rw [List.length_append, extCells_append]
  exact hown
theorem of_any (w : World) (a : Option Addr) (c N : Nat) (es : List Ext) (hN : N = 3 * es.length) (hl : es.length ≤ 1000) (hr : RdX w a es) :
    Calls Try.prog 43 #[.slice a N c] w fun e w' => ∃ A c', e = .returned (.slice A es.length c') ∧ OwnX w.heap.size w' A c' es ∧ Below w.heap.size w w' := by
  obtain ⟨n, hn⟩ : ∃ n, n = es.length := ⟨_, rfl⟩
  have HNn := hid hn
  rw [← hn] at hN hl ⊢
  subst hN
  clear hn
  go_enter Try.func43, Try.ntmps43
  go_wp2_with fail
  go_loopw [3, 4] (fun v i wr => ∃ (k : Nat) (A : Option Addr) (c1 : Nat), k ≤ n ∧ i = .int .i64 (3 * (k : Int)) ∧ v = .slice A k c1 ∧ OwnX w.heap.size wr A c1 (es.take k) ∧ Below w.heap.size w wr) (fun _ i _ => 3 * n - (intOf i).toNat)
  case atStart => exact ⟨0, none, 0, by omega, rfl, rfl, OwnX.nil _ _, Below.refl _ _⟩
  case round =>
    obtain ⟨k, A, c1, hk, rfl, rfl, hO, hB⟩ := hrel
    obtain ⟨wa, rfl⟩ : ∃ wa, wa = wr := ⟨_, rfl⟩
    by_cases hlt : k < n
    · have hkl : k < es.length := by have := HNn.out; omega
      obtain ⟨b, off, rfl, hcs⟩ := (hr.below hB).at_ (by intro e; rw [e] at hkl; simp at hkl)
      obtain ⟨k0, k1, k2⟩ := hcs k hkl
      have e3 : off + k * 3 = off + 3 * k := by omega
      rw [e3] at k0 k1 k2
      have htk : es.take (k + 1) = es.take k ++ [xat es k] := by
        rw [List.take_succ_eq_append_getElem hkl]
        simp [xat, List.getD_eq_getElem?_getD, List.getElem?_eq_getElem hkl]
      have hlk : (es.take k).length = k := by rw [List.length_take]; omega
      generalize hx : xat es k = x at *
      obtain ⟨xa, xs, xc⟩ := x
      simp only at k0 k1 k2
      have HTK := hid htk; have HLK := hid hlk; have HO := hid hO
      have hs := hB.size
      have hB' : Below w.heap.size w wa := hB
      have i0 : IntKind.i64.wrap ((3 * (k : Int)) + 3) = (3 * (k : Int)) + 3 := IntWalk.i64_in _ (by omega)
      have hc0 : decide ((3 * (k : Int)) + 3 ≤ (3 * (n : Int))) = true := decide_eq_true (by omega)
      have i1 : IntKind.i64.wrap ((3 * (k : Int)) + 1) = (3 * (k : Int)) + 1 := IntWalk.i64_in _ (by omega)
      have i2 : IntKind.i64.wrap ((3 * (k : Int)) + 2) = (3 * (k : Int)) + 2 := IntWalk.i64_in _ (by omega)
      have j0 : (0 : Int) ≤ 3 * (k : Int) := by omega
      have j1 : (0 : Int) ≤ 3 * (k : Int) + 1 := by omega
      have j2 : (0 : Int) ≤ 3 * (k : Int) + 2 := by omega
      have t0 : (3 * (k : Int)).toNat = 3 * k := by omega
      have t1 : (3 * (k : Int) + 1).toNat = 3 * k + 1 := by omega
      have t2 : (3 * (k : Int) + 2).toNat = 3 * k + 2 := by omega
      have l0 : 3 * (k : Int) < 3 * (n : Int) := by omega
      have l1 : 3 * (k : Int) + 1 < 3 * (n : Int) := by omega
      have l2 : 3 * (k : Int) + 2 < 3 * (n : Int) := by omega
      rw [Nat.add_assoc] at k1 k2
      have d0 : wa.drew.cell? ⟨b, off + 3 * k, none⟩ = some (.int .i64 xa) := k0
      have ba := below_drewN2 ((Below.refl wa.heap.size wa).alloc (Nat.le_refl _) (.cells #[.int .i64 xa, .int .i64 xs, .int .i64 xc] 24)) 1
      have HOa := hid (show OwnX w.heap.size (wa.alloc (.cells #[.int .i64 xa, .int .i64 xs, .int .i64 xc] 24)).drew A c1 (es.take k) from HO.out.below ba)
      have HBa := hid (show Below w.heap.size w (wa.alloc (.cells #[.int .i64 xa, .int .i64 xs, .int .i64 xc] 24)).drew from hB'.trans (ba.mono hs))
      have HRa := hid (show RdX (wa.alloc (.cells #[.int .i64 xa, .int .i64 xs, .int .i64 xc] 24)).drew (some ⟨wa.heap.size, 0, none⟩) [⟨xa, xs, xc⟩] from (RdX.lit wa _ _ [⟨xa, xs, xc⟩] rfl rfl).below (below_drewN2 (Below.refl _ _) 1))
      have HSa := hid (show w.heap.size ≤ (wa.alloc (.cells #[.int .i64 xa, .int .i64 xs, .int .i64 xc] 24)).drew.heap.size from Nat.le_trans hs ba.size)
      clear hcs hx htk hlk hO e3 ba
      go_wp2_with fail
      go_region_law (refine step_ext rfl (.tmp 12) (.tmp 28) rfl w.heap.size A c1 k (es.take k) HLK.out.symm (by simp [Act.eval, Act.put]) HOa.out (some ⟨wa.heap.size, 0, none⟩) 1 1 [⟨xa, xs, xc⟩] (by simp [Act.eval, Act.put]) rfl HRa.out (k + 1) (by rw [HLK.out]; rfl) (by rw [HLK.out]; simp; omega) w HBa.out HSa.out ?_; intro A3 c3 w3 o3 b3; rw [← HTK.out] at o3; have O3 := hid o3; have B3 := hid b3; clear o3 b3)
      all_goals
        go_wp2_with fail
        exact ⟨⟨k + 1, A3, c3, by omega, by congr 1, rfl, O3.out, B3.out⟩, by simp [intOf]; omega⟩
    · have hc0 : decide ((3 * (k : Int)) + 3 ≤ (3 * (n : Int))) = false := decide_eq_false (by omega)
      obtain rfl : k = n := by omega
      have e1 : es.take k = es := List.take_of_length_le (by have := HNn.out; omega)
      rw [e1] at hO
      have HO := hid hO
      have HB := hid hB
      clear hO hB hlt e1
      go_wp2
      go_ret
      exact ⟨A, c1, rfl, HO.out, HB.out⟩

theorem awake25_any (w : World) : Calls Try.prog 12 #[] w fun e w' => e = .returned (.bool true) ∧ Below w.heap.size w w' := by
  have ok1 : ∀ es : List Ext, (∀ x ∈ es, x.ok) → okX es := fun es h => okX_mem.2 h
  have a1 := fun W A c (h : RdX W A [⟨0, 30, 2⟩]) => Add_any W A c 1 [⟨0, 30, 2⟩] ⟨2, 32, 1⟩ rfl (by decide) h (ok1 _ (by simp [Ext.ok])) (by simp [Ext.ok])
  have a2 := fun W A c (h : RdX W A [⟨0, 30, 1⟩, ⟨2, 32, 1⟩]) => Add_any W A c 2 [⟨0, 30, 1⟩, ⟨2, 32, 1⟩] ⟨1, 31, 1⟩ rfl (by decide) h (ok1 _ (by simp [Ext.ok])) (by simp [Ext.ok])
  have a3 := fun W A c (h : RdX W A [⟨0, 30, 4⟩]) => Cut_ok W A c 1 [⟨0, 30, 4⟩] rfl (by decide) h (ok1 _ (by simp [Ext.ok])) 1 (by decide) (by decide) (by decide)
  have a4 := fun W A c (h : RdX W A [⟨4, 30, 2⟩]) => Find_any W A c 1 [⟨4, 30, 2⟩] rfl (by simp) h (ok1 _ (by simp [Ext.ok])) 5
  have r1 : addR ⟨2, 32, 1⟩ [⟨0, 30, 2⟩] = [⟨0, 30, 3⟩] := by decide
  have r2 : addR ⟨1, 31, 1⟩ [⟨0, 30, 1⟩, ⟨2, 32, 1⟩] = [⟨0, 30, 3⟩] := by decide
  have r3 : addE ⟨2, 32, 1⟩ [⟨0, 30, 2⟩] = 0 := by decide
  have r4 : addE ⟨1, 31, 1⟩ [⟨0, 30, 1⟩, ⟨2, 32, 1⟩] = 0 := by decide
  have r5 : cutA 1 [⟨0, 30, 4⟩] = [⟨0, 30, 1⟩] := by decide
  have r6 : cutB 1 [⟨0, 30, 4⟩] = [⟨1, 31, 3⟩] := by decide
  have r7 : fnV [⟨4, 30, 2⟩] 5 = 31 := by decide
  have r8 : fnB [⟨4, 30, 2⟩] 5 = true := by decide
  rw [r1, r3] at a1
  rw [r2, r4] at a2
  rw [r5, r6] at a3
  rw [r7, r8] at a4
  have sm := fun W A c A2 c2 (es : List Ext) (hl : es.length ≤ 10) (h1 : RdX W A es) (h2 : RdX W A2 es) => SameExtents_any W A A2 c c2 es.length es.length es es rfl rfl (by omega) h1 h2
  simp only [decide_true] at sm
  unfold Ext.val at a1 a2
  clear ok1 r1 r2 r3 r4 r5 r6 r7 r8
  go_enter Try.func12, Try.ntmps12
  go_wp2_with fail
  have ra1 : RdX (w.alloc (.cells #[.int .i64 0, .int .i64 30, .int .i64 2] 3)) (some ⟨w.heap.size, 0, none⟩) [⟨0, 30, 2⟩] := RdX.lit _ _ _ _ rfl rfl
  have ba1 : Below w.heap.size w (w.alloc (.cells #[.int .i64 0, .int .i64 30, .int .i64 2] 3)) := (Below.refl _ _).alloc (Nat.le_refl _) _
  refine (of_any _ (some ⟨w.heap.size, 0, none⟩) 3 3 [⟨0, 30, 2⟩] rfl (by simp) ra1).mono ?_
  rintro e w1 ⟨A1, c1, rfl, o1, b1⟩
  have d1 := ba1.trans (b1.mono ba1.size)
  have bw1 := (Below.refl w.heap.size w).trans (d1.mono (Below.refl w.heap.size w).size)
  have h1 := o1.rd
  clear ra1 ba1 b1 o1 d1
  go_wp2_with fail
  refine (a1 w1 A1 c1 h1).mono ?_
  rintro e w2 ⟨R2, s2, rfl, t2, d2⟩
  have bw2 := (bw1).trans (d2.mono (bw1).size)
  replace h1 := h1.below d2
  clear bw1
  have x1 := t2.rd
  clear t2
  clear d2
  clear h1
  go_wp2_with fail
  have ra3 : RdX (w2.alloc (.cells #[.int .i64 0, .int .i64 30, .int .i64 1, .int .i64 2, .int .i64 32, .int .i64 1] 3)) (some ⟨w2.heap.size, 0, none⟩) [⟨0, 30, 1⟩, ⟨2, 32, 1⟩] := RdX.lit _ _ _ _ rfl rfl
  have ba3 : Below w2.heap.size w2 (w2.alloc (.cells #[.int .i64 0, .int .i64 30, .int .i64 1, .int .i64 2, .int .i64 32, .int .i64 1] 3)) := (Below.refl _ _).alloc (Nat.le_refl _) _
  refine (of_any _ (some ⟨w2.heap.size, 0, none⟩) 6 6 [⟨0, 30, 1⟩, ⟨2, 32, 1⟩] rfl (by simp) ra3).mono ?_
  rintro e w3 ⟨A3, c3, rfl, o3, b3⟩
  have d3 := ba3.trans (b3.mono ba3.size)
  have bw3 := (bw2).trans (d3.mono (bw2).size)
  replace x1 := x1.below d3
  clear bw2
  have h2 := o3.rd
  clear ra3 ba3 b3 o3 d3
  go_wp2_with fail
  refine (a2 w3 A3 c3 h2).mono ?_
  rintro e w4 ⟨R4, s4, rfl, t4, d4⟩
  have bw4 := (bw3).trans (d4.mono (bw3).size)
  replace x1 := x1.below d4
  replace h2 := h2.below d4
  clear bw3
  have x2 := t4.rd
  clear t4
  clear d4
  clear h2
  go_wp2_with fail
  have ra5 : RdX (w4.alloc (.cells #[.int .i64 0, .int .i64 30, .int .i64 4] 3)) (some ⟨w4.heap.size, 0, none⟩) [⟨0, 30, 4⟩] := RdX.lit _ _ _ _ rfl rfl
  have ba5 : Below w4.heap.size w4 (w4.alloc (.cells #[.int .i64 0, .int .i64 30, .int .i64 4] 3)) := (Below.refl _ _).alloc (Nat.le_refl _) _
  refine (of_any _ (some ⟨w4.heap.size, 0, none⟩) 3 3 [⟨0, 30, 4⟩] rfl (by simp) ra5).mono ?_
  rintro e w5 ⟨A5, c5, rfl, o5, b5⟩
  have d5 := ba5.trans (b5.mono ba5.size)
  have bw5 := (bw4).trans (d5.mono (bw4).size)
  replace x1 := x1.below d5
  replace x2 := x2.below d5
  clear bw4
  have h3 := o5.rd
  clear ra5 ba5 b5 o5 d5
  go_wp2_with fail
  refine (a3 w5 A5 c5 h3).mono ?_
  rintro e w6 ⟨R6, s6, R26, s26, rfl, t6, d6⟩
  have bw6 := (bw5).trans (d6.mono (bw5).size)
  replace x1 := x1.below d6
  replace x2 := x2.below d6
  replace h3 := h3.below d6
  clear bw5
  have x3 := t6.1.rd
  have x4 := t6.2.1.rd
  clear t6
  clear d6
  clear h3
  go_wp2_with fail
  have ra7 : RdX (w6.alloc (.cells #[.int .i64 4, .int .i64 30, .int .i64 2] 3)) (some ⟨w6.heap.size, 0, none⟩) [⟨4, 30, 2⟩] := RdX.lit _ _ _ _ rfl rfl
  have ba7 : Below w6.heap.size w6 (w6.alloc (.cells #[.int .i64 4, .int .i64 30, .int .i64 2] 3)) := (Below.refl _ _).alloc (Nat.le_refl _) _
  refine (of_any _ (some ⟨w6.heap.size, 0, none⟩) 3 3 [⟨4, 30, 2⟩] rfl (by simp) ra7).mono ?_
  rintro e w7 ⟨A7, c7, rfl, o7, b7⟩
  have d7 := ba7.trans (b7.mono ba7.size)
  have bw7 := (bw6).trans (d7.mono (bw6).size)
  replace x1 := x1.below d7
  replace x2 := x2.below d7
  replace x3 := x3.below d7
  replace x4 := x4.below d7
  clear bw6
  have h4 := o7.rd
  clear ra7 ba7 b7 o7 d7
  go_wp2_with fail
  refine (a4 w7 A7 c7 h4).mono ?_
  rintro e w8 ⟨rfl, d8⟩
  have bw8 := (bw7).trans (d8.mono (bw7).size)
  replace x1 := x1.below d8
  replace x2 := x2.below d8
  replace x3 := x3.below d8
  replace x4 := x4.below d8
  replace h4 := h4.below d8
  clear bw7
  clear d8
  clear h4
  go_wp2_with fail
  have ra9 : RdX (w8.alloc (.cells #[.int .i64 0, .int .i64 30, .int .i64 3] 3)) (some ⟨w8.heap.size, 0, none⟩) [⟨0, 30, 3⟩] := RdX.lit _ _ _ _ rfl rfl
  have ba9 : Below w8.heap.size w8 (w8.alloc (.cells #[.int .i64 0, .int .i64 30, .int .i64 3] 3)) := (Below.refl _ _).alloc (Nat.le_refl _) _
  refine (of_any _ (some ⟨w8.heap.size, 0, none⟩) 3 3 [⟨0, 30, 3⟩] rfl (by simp) ra9).mono ?_
  rintro e w9 ⟨A9, c9, rfl, o9, b9⟩
  have d9 := ba9.trans (b9.mono ba9.size)
  have bw9 := (bw8).trans (d9.mono (bw8).size)
  replace x1 := x1.below d9
  replace x2 := x2.below d9
  replace x3 := x3.below d9
  replace x4 := x4.below d9
  clear bw8
  have gx1 := o9.rd
  clear ra9 ba9 b9 o9 d9
  go_wp2_with fail
  refine (sm w9 R2 s2 A9 c9 [⟨0, 30, 3⟩] (by simp) x1 gx1).mono ?_
  rintro e w10 ⟨rfl, d10⟩
  have bw10 := (bw9).trans (d10.mono (bw9).size)
  replace x1 := x1.below d10
  replace x2 := x2.below d10
  replace x3 := x3.below d10
  replace x4 := x4.below d10
  replace gx1 := gx1.below d10
  clear bw9
  clear d10
  clear x1 gx1
  go_wp2_with fail
  have ra11 : RdX (w10.alloc (.cells #[.int .i64 0, .int .i64 30, .int .i64 3] 3)) (some ⟨w10.heap.size, 0, none⟩) [⟨0, 30, 3⟩] := RdX.lit _ _ _ _ rfl rfl
  have ba11 : Below w10.heap.size w10 (w10.alloc (.cells #[.int .i64 0, .int .i64 30, .int .i64 3] 3)) := (Below.refl _ _).alloc (Nat.le_refl _) _
  refine (of_any _ (some ⟨w10.heap.size, 0, none⟩) 3 3 [⟨0, 30, 3⟩] rfl (by simp) ra11).mono ?_
  rintro e w11 ⟨A11, c11, rfl, o11, b11⟩
  have d11 := ba11.trans (b11.mono ba11.size)
  have bw11 := (bw10).trans (d11.mono (bw10).size)
  replace x2 := x2.below d11
  replace x3 := x3.below d11
  replace x4 := x4.below d11
  clear bw10
  have gx2 := o11.rd
  clear ra11 ba11 b11 o11 d11
  go_wp2_with fail
  refine (sm w11 R4 s4 A11 c11 [⟨0, 30, 3⟩] (by simp) x2 gx2).mono ?_
  rintro e w12 ⟨rfl, d12⟩
  have bw12 := (bw11).trans (d12.mono (bw11).size)
  replace x2 := x2.below d12
  replace x3 := x3.below d12
  replace x4 := x4.below d12
  replace gx2 := gx2.below d12
  clear bw11
  clear d12
  clear x2 gx2
  go_wp2_with fail
  have ra13 : RdX (w12.alloc (.cells #[.int .i64 0, .int .i64 30, .int .i64 1] 3)) (some ⟨w12.heap.size, 0, none⟩) [⟨0, 30, 1⟩] := RdX.lit _ _ _ _ rfl rfl
  have ba13 : Below w12.heap.size w12 (w12.alloc (.cells #[.int .i64 0, .int .i64 30, .int .i64 1] 3)) := (Below.refl _ _).alloc (Nat.le_refl _) _
  refine (of_any _ (some ⟨w12.heap.size, 0, none⟩) 3 3 [⟨0, 30, 1⟩] rfl (by simp) ra13).mono ?_
  rintro e w13 ⟨A13, c13, rfl, o13, b13⟩
  have d13 := ba13.trans (b13.mono ba13.size)
  have bw13 := (bw12).trans (d13.mono (bw12).size)
  replace x3 := x3.below d13
  replace x4 := x4.below d13
  clear bw12
  have gx3 := o13.rd
  clear ra13 ba13 b13 o13 d13
  go_wp2_with fail
  refine (sm w13 R6 s6 A13 c13 [⟨0, 30, 1⟩] (by simp) x3 gx3).mono ?_
  rintro e w14 ⟨rfl, d14⟩
  have bw14 := (bw13).trans (d14.mono (bw13).size)
  replace x3 := x3.below d14
  replace x4 := x4.below d14
  replace gx3 := gx3.below d14
  clear bw13
  clear d14
  clear x3 gx3
  go_wp2_with fail
  have ra15 : RdX (w14.alloc (.cells #[.int .i64 1, .int .i64 31, .int .i64 3] 3)) (some ⟨w14.heap.size, 0, none⟩) [⟨1, 31, 3⟩] := RdX.lit _ _ _ _ rfl rfl
  have ba15 : Below w14.heap.size w14 (w14.alloc (.cells #[.int .i64 1, .int .i64 31, .int .i64 3] 3)) := (Below.refl _ _).alloc (Nat.le_refl _) _
  refine (of_any _ (some ⟨w14.heap.size, 0, none⟩) 3 3 [⟨1, 31, 3⟩] rfl (by simp) ra15).mono ?_
  rintro e w15 ⟨A15, c15, rfl, o15, b15⟩
  have d15 := ba15.trans (b15.mono ba15.size)
  have bw15 := (bw14).trans (d15.mono (bw14).size)
  replace x4 := x4.below d15
  clear bw14
  have gx4 := o15.rd
  clear ra15 ba15 b15 o15 d15
  go_wp2_with fail
  refine (sm w15 R26 s26 A15 c15 [⟨1, 31, 3⟩] (by simp) x4 gx4).mono ?_
  rintro e w16 ⟨rfl, d16⟩
  have bw16 := (bw15).trans (d16.mono (bw15).size)
  replace x4 := x4.below d16
  replace gx4 := gx4.below d16
  clear bw15
  clear d16
  clear x4 gx4
  go_wp2
  go_ret
  exact ⟨rfl, bw16⟩
end Go.Proofs.Ytahlhdhljjpeoaa
