/- The document's Right. -/
import Derived.Test.YtahlhdhljjpeoaaExt
import Derived.Deep.QuietTactic
import Derived.BigQuiet
namespace Go.Proofs.Ytahlhdhljjpeoaa
open Go.RowKit
set_option maxHeartbeats 1600000
set_option linter.unusedVariables false
set_option linter.unusedSimpArgs false

theorem endTo_nonneg (l : List Ext) : ∀ k, badTo l k = false → 0 ≤ endTo l k
  | 0, _ => by simp [endTo]
  | k + 1, h => by
    rw [badTo_succ, Bool.or_eq_false_iff] at h
    have h1 := endTo_nonneg l k h.1
    have h2 := h.2
    simp [Ext.bad] at h2
    have : endTo l (k + 1) = (xat l k).at_ + (xat l k).ct := by simp [endTo]
    omega
theorem RdX.cells {w : World} {b off : Nat} {l : List Ext} (h : RdX w (some ⟨b, off, none⟩) l) (k : Nat) (hk : k < l.length) :
    w.cell? ⟨b, off + k * 3, none⟩ = some (.int .i64 (xat l k).at_) ∧ w.cell? ⟨b, off + k * 3 + 1, none⟩ = some (.int .i64 (xat l k).st) ∧ w.cell? ⟨b, off + k * 3 + 2, none⟩ = some (.int .i64 (xat l k).ct) := by
  obtain ⟨b', off', h', hc⟩ := h.at_ (by intro e; simp [e] at hk)
  simp only [Option.some.injEq, Addr.mk.injEq, and_true] at h'
  obtain ⟨rfl, rfl⟩ := h'
  exact hc k hk
theorem below_new (w : World) (o : Obj) : Below w.heap.size w (w.drew.alloc o) := ⟨rfl, rfl, rfl, by simp, fun k hk => heap_alloc_old w.drew o hk⟩
theorem below_over {w w' : World} (h : Below w.heap.size w w') (o : Obj) : Below w.heap.size w (w'.drew.alloc o) := h.trans ((below_new w' o).mono h.size)
theorem below_dn {w w' : World} (h : Below w.heap.size w w') (o : Obj) (q : Nat) : Below w.heap.size w ((w'.alloc o).drewN q) := h.trans (⟨rfl, rfl, rfl, by simp, fun k hk => heap_alloc_old w' o (Nat.lt_of_lt_of_le hk h.size)⟩)
set_option maxRecDepth 100000 in
theorem refRight_any (w : World) (a : Option Addr) (c N : Nat) (l : List Ext) (hN : N = l.length) (hl : l.length ≤ 200000000000000) (hr : RdX w a l) (ho : okX l) :
    Calls Try.prog 83 #[.slice a N c] w fun e w' => e = .returned (.bool (rightX l)) ∧ Below w.heap.size w w' := by
  subst hN
  go_enter Try.func83, Try.ntmps83
  go_wp2_with fail
  go_loopw [3] (fun i wr => ∃ k : Nat, k ≤ l.length ∧ i = .int .i64 k ∧ badTo l k = false ∧ Below w.heap.size w wr) (fun i _ => l.length - (intOf i).toNat)
  case atStart => exact ⟨0, by omega, rfl, rfl, Below.refl _ _⟩
  case round =>
    obtain ⟨k, hk, rfl, hbad, hbl⟩ := hrel
    by_cases hlt : k < l.length
    · have hrk := hr.below hbl
      obtain ⟨b, off, rfl, hcs⟩ := hrk.at_ (by intro e; simp [e] at hlt)
      obtain ⟨k0, k1, k2⟩ := hcs k hlt
      have HX := ho k hlt
      have HB := hid (badTo_succ l k)
      have hend := hid (endTo_nonneg l k hbad)
      generalize hx : xat l k = x at *
      obtain ⟨xa, xs, xc⟩ := x
      have HX' := HX
      simp only [Ext.ok] at HX'
      obtain ⟨⟨x1, x2⟩, ⟨x3, x4⟩, x5, x6⟩ := HX'
      by_cases hfirst : xc < 1 ∨ 512 < xc ∨ xa < 0 ∨ 512 < xa ∨ xs < 1 ∨ 512 < xs
      · have hall := hid (badTo_mono l (k + 1) l.length (by
          rw [HB.out, hbad, Bool.false_or]
          have := hend.out
          simp [Ext.bad]; omega) (by omega))
        have HF := hid hfirst; clear hfirst
        go_wp2_with fail
        all_goals first
          | (exfalso; have := HF.out; omega)
          | (go_ret; exact ⟨by rw [rightX, hall.out]; rfl, (hbl.alloc hbl.size _)⟩)
      · have f1 : 1 ≤ xc := by omega
        have f2 : xc ≤ 512 := by omega
        have f3 : 0 ≤ xa := by omega
        have f4 : xa ≤ 512 := by omega
        have f5 : 1 ≤ xs := by omega
        have f6 : xs ≤ 512 := by omega
        clear hfirst
        go_wp2_with fail
        have s1 : IntKind.i64.wrap (xa + xc) = xa + xc := by rw [IntKind.wrap_i64]; omega
        have s2 : IntKind.i64.wrap (xs + xc) = xs + xc := by rw [IntKind.wrap_i64]; omega
        by_cases g1 : 512 < xa + xc
        · have hall := hid (badTo_mono l (k + 1) l.length (by
            rw [HB.out, hbad, Bool.false_or]
            have := hend.out
            simp [Ext.bad]; omega) (by omega))
          go_quiet (fail)
          go_wp2
          go_ret
          exact ⟨by rw [rightX, hall.out]; rfl, below_dn hbl _ _⟩
        · have g1 : xa + xc ≤ 512 := by omega
          by_cases g2 : 512 < xs + xc
          · have hall := hid (badTo_mono l (k + 1) l.length (by
              rw [HB.out, hbad, Bool.false_or]
              have := hend.out
              simp [Ext.bad]; omega) (by omega))
            go_quiet (fail)
            go_wp2
            go_ret
            exact ⟨by rw [rightX, hall.out]; rfl, below_dn hbl _ _⟩
          · have g2 : xs + xc ≤ 512 := by omega
            by_cases hk0 : k = 0
            · subst hk0
              have hnext := hid (show badTo l 1 = false by
                rw [HB.out, hbad, Bool.false_or]
                simp [Ext.bad, endTo]; omega)
              go_quiet (fail)
              go_wp2
              go_roundw
              case rel => exact ⟨1, by omega, by go_num, hnext.out, below_dn hbl _ _⟩
              case measure => simp [intOf]; omega
            · have hk0 : 0 < k := by omega
              obtain ⟨j, ya, ys, yc, hj1, p0, p2, s3, HNX, HNY⟩ : ∃ (j : Nat) (ya ys yc : Int), IntKind.i64.wrap ((k : Int) - 1) = (j : Int) ∧ wr.cell? ⟨b, off + j * 3, none⟩ = some (.int .i64 ya) ∧ wr.cell? ⟨b, off + j * 3 + 2, none⟩ = some (.int .i64 yc) ∧ IntKind.i64.wrap (ya + yc) = ya + yc ∧
                  Hid ((0 ≤ (j : Int) ∧ (j : Int) < l.length) ∧ (xa < ya + yc → badTo l l.length = true)) ∧ Hid (ya + yc ≤ xa → badTo l (k + 1) = false) := by
                obtain ⟨j, hj⟩ : ∃ j, k = j + 1 := ⟨k - 1, by omega⟩
                obtain ⟨p0, p1, p2⟩ := RdX.cells hrk j (by omega)
                have hbj := badTo_succ l j
                rw [← hj, hbad] at hbj
                have hbj1 := (Bool.or_eq_false_iff.mp hbj.symm).1
                have hbj2 := (Bool.or_eq_false_iff.mp hbj.symm).2
                have hek : endTo l k = (xat l j).at_ + (xat l j).ct := by rw [hj]; simp [endTo]
                have HEJ := endTo_nonneg l j hbj1
                simp [Ext.bad] at hbj2
                refine ⟨j, _, (xat l j).st, _, ?_, p0, p2, ?_, ⟨⟨by omega, by omega⟩, fun g3 => ?_⟩, fun g3 => ?_⟩
                · rw [IntKind.wrap_i64]; omega
                · rw [IntKind.wrap_i64]; omega
                · refine badTo_mono l (k + 1) l.length ?_ (by omega)
                  rw [HB.out, hbad, Bool.false_or, hek]
                  simp [Ext.bad]; omega
                · rw [HB.out, hbad, Bool.false_or, hek]
                  simp [Ext.bad]; omega
              have p0A : ∀ o, (wr.alloc o).cell? ⟨b, off + j * 3, none⟩ = some (.int .i64 ya) := fun o => cell_below ((Below.refl _ wr).alloc (Nat.le_refl _) o) p0
              have p2A : ∀ o, (wr.alloc o).cell? ⟨b, off + j * 3 + 2, none⟩ = some (.int .i64 yc) := fun o => cell_below ((Below.refl _ wr).alloc (Nat.le_refl _) o) p2
              have j1 : (0 : Int) ≤ (j : Int) := HNX.out.1.1
              have j2 : (j : Int) < (l.length : Int) := HNX.out.1.2
              by_cases g3 : xa < ya + yc
              · go_quiet (fail)
                go_wp2
                go_ret
                exact ⟨by rw [rightX, HNX.out.2 g3]; rfl, below_dn hbl _ _⟩
              · have g3 : ya + yc ≤ xa := by omega
                go_quiet (fail)
                go_wp2
                go_roundw
                case rel => exact ⟨k + 1, by omega, by go_num, HNY.out g3, below_dn hbl _ _⟩
                case measure => simp [intOf]; omega
    · obtain rfl : k = l.length := by omega
      go_wp2
      go_ret
      exact ⟨by rw [rightX, hbad]; rfl, hbl⟩
end Go.Proofs.Ytahlhdhljjpeoaa
