/- extents.Add (printed by gen25d.py). -/
import Derived.Test.YtahlhdhljjpeoaaExC
import Derived.Deep.RegionHeld3
import Derived.Deep.DeepCutAuto
namespace Go.Proofs.Ytahlhdhljjpeoaa
open Go.RowKit
set_option maxHeartbeats 3200000
set_option maxRecDepth 100000
set_option linter.unusedVariables false
set_option linter.unusedSimpArgs false

theorem cell3 {w : World} {g : Nat} {t : TypeId} {x0 x1 x2 : Value} (h : w.heap[g]? = some (.cells #[x0, x1, x2] t (0, 0))) : w.cell? ⟨g, 0, none⟩ = some x0 ∧ w.cell? ⟨g, 1, none⟩ = some x1 ∧ w.cell? ⟨g, 2, none⟩ = some x2 := by
  refine ⟨?_, ?_, ?_⟩ <;> (rw [cell_of_row _ _ _ _ _ _ h]; rfl)
theorem below_all {w w' : World} (h : Below w.heap.size w w') {g : Nat} {o : Obj} (hg : w.heap[g]? = some o) : w'.heap[g]? = some o := (h.block _ (heap_inX hg)).trans hg
theorem own_block {base : Nat} {w : World} {A : Option Addr} {c g : Nat} {l : List Ext} (h : OwnX base w A c l) (e : A = some ⟨g, 0, none⟩) : base ≤ g ∧ g < w.heap.size := by
  subst e
  obtain ⟨h1, cur, h2⟩ := h.row
  exact ⟨h1, heap_inX h2.row⟩
theorem okX_mem {l : List Ext} : okX l ↔ ∀ x ∈ l, x.ok := by
  constructor
  · intro h x hx
    obtain ⟨k, hk, rfl⟩ := List.getElem_of_mem hx
    have := h k hk
    simpa [xat, List.getD_eq_getElem?_getD, List.getElem?_eq_getElem hk] using this
  · intro h k hk
    have e : xat l k = l[k] := by simp [xat, List.getD_eq_getElem?_getD, List.getElem?_eq_getElem hk]
    rw [e]
    exact h _ (List.getElem_mem hk)
theorem RdX.one {w : World} {g : Nat} {x : Ext} {t : TypeId} (h : w.heap[g]? = some (.cells x.cells.toArray t (0, 0))) : RdX w (some ⟨g, 0, none⟩) [x] := by
  intro _
  refine ⟨g, 0, rfl, fun j u hu => ?_⟩
  rw [Nat.zero_add, cell_of_row _ _ _ _ _ _ h]
  simpa [extCells] using hu

theorem Add_err1 (w : World) (a : Option Addr) (c N : Nat) (l : List Ext) (x : Ext) (hN : N = l.length) (hl : N ≤ 999990) (hr : RdX w a l) (hol : okX l) (hox : x.ok) (hrl : rightX l = false) :
    Calls Try.prog 13 #[.slice a N c, x.val] w fun e w' => e = .returned (.tuple #[.slice none 0 0, .int .i64 2]) ∧ Below w.heap.size w w' := by
  obtain ⟨xa, xs, xc⟩ := x
  have RL := fun W (h : RdX W a l) => Right_any W a c N l hN (by rw [← hN]; omega) h hol
  have RX := fun W (g : Nat) (h : W.heap[g]? = some (.cells #[.int .i64 xa, .int .i64 xs, .int .i64 xc] 24 (0, 0))) => Right_any W (some ⟨g, 0, none⟩) 1 1 [⟨xa, xs, xc⟩] rfl (by simp) (RdX.one h) (okX_mem.2 (by simpa using hox))
  rw [hrl] at RL
  have HN := hid hN
  clear hN
  have hb1 : Below w.heap.size w (w.alloc (.cells #[.int .i64 xa, .int .i64 xs, .int .i64 xc] 24)) := (Below.refl _ _).alloc (Nat.le_refl _) _
  have hr1 := hr.below hb1
  unfold Ext.val
  clear RX hrl
  simp only
  go_enter Try.func13, Try.ntmps13
  go_wp2_with fail
  refine (RL _ hr1).mono ?_
  rintro e w1 ⟨rfl, b1⟩
  go_wp2
  go_ret2
  exact ⟨rfl, hb1.trans (b1.mono hb1.size)⟩
theorem Add_err2 (w : World) (a : Option Addr) (c N : Nat) (l : List Ext) (x : Ext) (hN : N = l.length) (hl : N ≤ 999990) (hr : RdX w a l) (hol : okX l) (hox : x.ok) (hrl : rightX l = true) (hrx : rightX [x] = false) :
    Calls Try.prog 13 #[.slice a N c, x.val] w fun e w' => e = .returned (.tuple #[.slice none 0 0, .int .i64 2]) ∧ Below w.heap.size w w' := by
  obtain ⟨xa, xs, xc⟩ := x
  have RL := fun W (h : RdX W a l) => Right_any W a c N l hN (by rw [← hN]; omega) h hol
  have RX := fun W (g : Nat) (h : W.heap[g]? = some (.cells #[.int .i64 xa, .int .i64 xs, .int .i64 xc] 24 (0, 0))) => Right_any W (some ⟨g, 0, none⟩) 1 1 [⟨xa, xs, xc⟩] rfl (by simp) (RdX.one h) (okX_mem.2 (by simpa using hox))
  rw [hrl] at RL
  have HN := hid hN
  clear hN
  rw [hrx] at RX
  have hb1 : Below w.heap.size w (w.alloc (.cells #[.int .i64 xa, .int .i64 xs, .int .i64 xc] 24)) := (Below.refl _ _).alloc (Nat.le_refl _) _
  have hro : (w.alloc (.cells #[.int .i64 xa, .int .i64 xs, .int .i64 xc] 24)).heap[w.heap.size]? = some (.cells #[.int .i64 xa, .int .i64 xs, .int .i64 xc] 24 (0, 0)) := heap_alloc_new w _
  have hr1 := hr.below hb1
  unfold Ext.val
  have HRO := hid hro
  clear hrl hrx hro
  simp only
  go_enter Try.func13, Try.ntmps13
  go_wp2_with fail
  refine (RL _ hr1).mono ?_
  rintro e w1 ⟨rfl, b1⟩
  have bb1 := hb1.trans (b1.mono hb1.size)
  obtain ⟨y0, y1, y2⟩ := cell3 (below_all b1 HRO.out)
  have hn1 := heap_alloc_new w1 (.cells #[.int .i64 xa, .int .i64 xs, .int .i64 xc] 24)
  have HN1 := hid hn1
  clear hn1
  go_wp2_with fail
  refine (RX _ _ HN1.out).mono ?_
  rintro e w2 ⟨rfl, b2⟩
  go_wp2
  go_ret2
  exact ⟨rfl, (bb1.alloc bb1.size _).trans (b2.mono (bb1.alloc bb1.size _).size)⟩

def StX (base : Nat) (w : World) (g c : Nat) (L : List Ext) (wx : World) : Prop := OwnX base wx (some ⟨g, 0, none⟩) c L ∧ Below w.heap.size w wx
def CutX (base : Nat) (w : World) (n : Nat) (L : List Ext) (v : Value) (wx : World) : Prop := ∃ A c, v = .slice A n c ∧ OwnX base wx A c L ∧ Below w.heap.size w wx

theorem OwnX.at3 {base g c : Nat} {w : World} {l : List Ext} (h : OwnX base w (some ⟨g, 0, none⟩) c l) (k : Nat) (hk : k < l.length) : w.cell? ⟨g, k * 3, none⟩ = some (.int .i64 (xat l k).at_) ∧ w.cell? ⟨g, k * 3 + 1, none⟩ = some (.int .i64 (xat l k).st) ∧ w.cell? ⟨g, k * 3 + 2, none⟩ = some (.int .i64 (xat l k).ct) ∧ w.frozen? ⟨g, k * 3 + 2, none⟩ = false := by
  have h1 := RdX.cells h.rd k hk
  simp only [Nat.zero_add] at h1
  exact ⟨h1.1, h1.2.1, h1.2.2, World.ownsRow.frozenAt h _⟩
theorem extCells_set (l : List Ext) : ∀ (i : Nat) (z : Ext), i < l.length → z.at_ = (xat l i).at_ → z.st = (xat l i).st → (extCells l).set (i * 3 + 2) (.int .i64 z.ct) = extCells (l.set i z) := by
  induction l with
  | nil => intro i z hi; simp at hi
  | cons x l ih =>
    intro i z hi h1 h2
    cases i with
    | zero =>
      have h1' : z.at_ = x.at_ := h1
      have h2' : z.st = x.st := h2
      simp [extCells, Ext.cells, h1', h2']
    | succ i =>
      have := ih i z (by simpa using hi) h1 h2
      simp only [extCells, List.set_cons_succ]
      rw [← this, List.set_append_right _ _ (by simp [Ext.cells]; omega)]
      congr 2
      simp [Ext.cells]
      omega
theorem OwnX.setct {base g c : Nat} {w : World} {l : List Ext} (h : OwnX base w (some ⟨g, 0, none⟩) c l) (i : Nat) (z : Ext) (hi : i < l.length) (h1 : z.at_ = (xat l i).at_) (h2 : z.st = (xat l i).st) : OwnX base (w.setCell ⟨g, i * 3 + 2, none⟩ (.int .i64 z.ct)) (some ⟨g, 0, none⟩) c (l.set i z) := by
  have := (World.ownsRow.stored h (i * 3 + 2) (.int .i64 z.ct)).1
  rw [extCells_set l i z hi h1 h2] at this
  unfold OwnX
  rw [List.length_set]
  exact this
theorem own_some {base : Nat} {w : World} {A : Option Addr} {c : Nat} {l : List Ext} (h : OwnX base w A c l) (hl : 0 < l.length) : ∃ g, A = some ⟨g, 0, none⟩ ∧ base ≤ g := by
  rcases h.2 with ⟨_, h0⟩ | ⟨g, cap, cur, hv, hb, _⟩
  · omega
  · simp only [Value.slice.injEq, true_and] at hv
    exact ⟨g, hv.1, hb⟩
theorem below_set {B g o : Nat} {v w : World} (h : Below B v w) (hg : B ≤ g) (u : Value) : Below B v (w.setCell ⟨g, o, none⟩ u) := h.setCell (p := ⟨g, o, none⟩) hg u
theorem xat_mid (a : List Ext) (z : Ext) (s : List Ext) (k : Nat) (h : k = a.length) : xat (a ++ z :: s) k = z := by
  subst h
  simp [xat, List.getD_eq_getElem?_getD]
theorem xat_mid1 (a : List Ext) (y z : Ext) (s : List Ext) (k : Nat) (h : k = a.length) : xat (a ++ y :: z :: s) (k + 1) = z := by
  have := xat_mid (a ++ [y]) z s (k + 1) (by simp [h])
  simpa using this
theorem set_mid (a : List Ext) (y z : Ext) (s : List Ext) (k : Nat) (h : k = a.length) : (a ++ y :: s).set k z = a ++ z :: s := by
  subst h
  rw [List.set_append_right _ _ (Nat.le_refl _)]
  simp
theorem cut_mid (a : List Ext) (y z : Ext) (s : List Ext) (k : Nat) (h : k = a.length) : (a ++ y :: z :: s).take (k + 1) ++ (a ++ y :: z :: s).drop (k + 1 + 1) = a ++ y :: s := by
  subst h
  have e : a ++ y :: z :: s = (a ++ [y]) ++ (z :: s) := by simp
  have h1 : (a ++ [y]).length = a.length + 1 := by simp
  rw [e, ← h1, List.take_left, List.drop_append]
  simp

theorem six_of {a b c d e f g h : Prop} (x : a ∧ b ∧ c ∧ g) (y : d ∧ e ∧ f ∧ h) : a ∧ b ∧ c ∧ d ∧ e ∧ f := ⟨x.1, x.2.1, x.2.2.1, y.1, y.2.1, y.2.2.1⟩

theorem Add_err3lt (w : World) (a : Option Addr) (c N : Nat) (I : Nat) (l : List Ext) (x : Ext) (hN : N = l.length) (hl : N ≤ 999990) (hr : RdX w a l) (hol : okX l) (hox : x.ok) (hrl : rightX l = true) (hrx : rightX [x] = true) (hI : insI x l = I) (hIN : I < N) (hro2 : rightX (l.take I ++ x :: l.drop I) = false) :
    Calls Try.prog 13 #[.slice a N c, x.val] w fun e w' => e = .returned (.tuple #[.slice none 0 0, .int .i64 2]) ∧ Below w.heap.size w w' := by
  have hlen0 : (l.take I ++ x :: l.drop I).length = N + 1 := by
    rw [List.length_append, List.length_cons, List.length_take, List.length_drop, ← hN]
    omega
  have hok2 : okX (l.take I ++ x :: l.drop I) := okX_mem.2 (by
    intro q hq
    have hol' := okX_mem.1 hol
    simp only [List.mem_append, List.mem_cons] at hq
    rcases hq with hq | hq | hq
    · exact hol' q (List.mem_of_mem_take hq)
    · rw [hq]; exact hox
    · exact hol' q (List.mem_of_mem_drop hq))
  obtain ⟨xa, xs, xc⟩ := x
  have HLEN := hid hlen0; have HOK := hid hok2; have HRO2 := hid hro2
  clear hlen0 hok2 hro2
  have RL := fun W (h : RdX W a l) => Right_any W a c N l hN (by rw [← hN]; omega) h hol
  have RX := fun W (g : Nat) (h : W.heap[g]? = some (.cells #[.int .i64 xa, .int .i64 xs, .int .i64 xc] 24 (0, 0))) => Right_any W (some ⟨g, 0, none⟩) 1 1 [⟨xa, xs, xc⟩] rfl (by simp) (RdX.one h) (okX_mem.2 (by simpa using hox))
  rw [hrl] at RL
  have HN := hid hN
  clear hN
  rw [hrx] at RX
  have hb1 : Below w.heap.size w (w.alloc (.cells #[.int .i64 xa, .int .i64 xs, .int .i64 xc] 24)) := (Below.refl _ _).alloc (Nat.le_refl _) _
  have hro : (w.alloc (.cells #[.int .i64 xa, .int .i64 xs, .int .i64 xc] 24)).heap[w.heap.size]? = some (.cells #[.int .i64 xa, .int .i64 xs, .int .i64 xc] 24 (0, 0)) := heap_alloc_new w _
  have hr1 := hr.below hb1
  have IX := fun W (h : RdX W a l) (hc : W.heap[w.heap.size]? = some (.cells #[.int .i64 xa, .int .i64 xs, .int .i64 xc] 24 (0, 0))) => IndexAdd_any w W w.heap.size a c N l HN.out (by have := HN.out; omega) h ⟨xa, xs, xc⟩ 24 hc
  have hidx : idxV (l.findIdx (fun y => decide ((⟨xa, xs, xc⟩ : Ext).at_ ≤ y.at_))) l.length = (I : Int) := by
    have e : l.findIdx (fun y => decide ((⟨xa, xs, xc⟩ : Ext).at_ ≤ y.at_)) = I := hI
    rw [e, idxV_in (by rw [← HN.out]; exact hIN)]
  rw [hidx] at IX
  have CL := fun W (h : RdX W a l) => CloneX_any W a c N l HN.out (by have := HN.out; omega) h
  have IN := fun W (A : Option Addr) (c' vb vc : Nat) (ho : OwnX (w.heap.size + 1) W A c' l) (hb : w.heap.size + 1 ≤ W.heap.size) (hx : W.heap[vb]? = some (.cells #[.int .i64 xa, .int .i64 xs, .int .i64 xc] 24 (0, 0))) hv => Insert_any (w.heap.size + 1) W A c' N I l HN.out (by omega) (Nat.le_of_lt hIN) ho hb vb vc ⟨xa, xs, xc⟩ hx hv
  unfold Ext.val
  have HRO := hid hro; have HI := hid hI; have HR := hid hr; have HR1 := hid hr1
  clear hrl hrx hro hI hidx hr hr1
  simp only
  go_enter Try.func13, Try.ntmps13
  go_wp2_with fail
  refine (RL _ HR1.out).mono ?_
  rintro e w1 ⟨rfl, b1⟩
  have bb1 := hb1.trans (b1.mono hb1.size)
  have hro1 := below_all b1 HRO.out
  obtain ⟨y0, y1, y2⟩ := cell3 hro1
  obtain ⟨w1a, hw1a⟩ : ∃ v, v = w1.alloc (.cells #[.int .i64 xa, .int .i64 xs, .int .i64 xc] 24) := ⟨_, rfl⟩
  have hn1 : w1a.heap[w1.heap.size]? = some (.cells #[.int .i64 xa, .int .i64 xs, .int .i64 xc] 24 (0, 0)) := by rw [hw1a]; exact heap_alloc_new w1 _
  have b1a : Below w1.heap.size w1 w1a := by rw [hw1a]; exact (Below.refl _ _).alloc (Nat.le_refl _) _
  have HN1 := hid hn1; have HW1A := hid hw1a
  have hro1a := below_all b1a hro1
  have bb1a := bb1.trans (b1a.mono bb1.size)
  clear hn1 hw1a RL hro1 b1a b1 bb1 hb1
  go_wp2_with fail
  rw [← HW1A.out]
  refine (RX _ _ HN1.out).mono ?_
  rintro e w2 ⟨rfl, b2⟩
  have bb2 := bb1a.trans (b2.mono bb1a.size)
  have hro2 := below_all b2 hro1a
  clear RX b2 bb1a hro1a y0 y1 y2
  go_wp2_with fail
  refine (IX _ (HR.out.below bb2) hro2).mono ?_
  rintro e w3 ⟨rfl, b3⟩
  have bb3 := bb2.trans (b3.mono bb2.size)
  have hro3 := below_all b3 hro2
  have hr3 := HR.out.below bb3
  obtain ⟨y0, y1, y2⟩ := cell3 hro3
  have sv : w3.cell? ⟨w.heap.size, 0, none⟩ = some (.int .i64 xa) ∧ w3.cell? ⟨w.heap.size, 1, none⟩ = some (.int .i64 xs) ∧ w3.cell? ⟨w.heap.size, 2, none⟩ = some (.int .i64 xc) := ⟨y0, y1, y2⟩
  have svd : w3.drew.cell? ⟨w.heap.size, 0, none⟩ = some (.int .i64 xa) ∧ w3.drew.cell? ⟨w.heap.size, 1, none⟩ = some (.int .i64 xs) ∧ w3.drew.cell? ⟨w.heap.size, 2, none⟩ = some (.int .i64 xc) := ⟨y0, y1, y2⟩
  have hr3d : RdX w3.drew a l := hr3.below (below_drewN2 (Below.refl _ _) 1)
  have b3d : Below w.heap.size w w3.drew := below_drewN2 bb3 1
  -- the two orders of the new block and the copy
  obtain ⟨v3, hv3⟩ : ∃ v, v = (w3.alloc (.cells #[.int .i64 xa, .int .i64 xs, .int .i64 xc] 24)) := ⟨_, rfl⟩
  have hn3 : v3.drew.heap[w3.heap.size]? = some (.cells #[.int .i64 xa, .int .i64 xs, .int .i64 xc] 24 (0, 0)) := by rw [hv3]; exact heap_alloc_new w3 _
  have b33 : Below w3.heap.size w3 v3.drew := by rw [hv3]; exact below_drewN2 ((Below.refl _ _).alloc (Nat.le_refl _) _) 1
  have hr3a := hr3.below b33
  have hro3a := below_all b33 hro3
  obtain ⟨z0, z1, z2⟩ := cell3 hro3a
  have sva : v3.drew.cell? ⟨w.heap.size, 0, none⟩ = some (.int .i64 xa) ∧ v3.drew.cell? ⟨w.heap.size, 1, none⟩ = some (.int .i64 xs) ∧ v3.drew.cell? ⟨w.heap.size, 2, none⟩ = some (.int .i64 xc) := ⟨z0, z1, z2⟩
  have b3a := bb3.trans (b33.mono bb3.size)
  have hsz3 : v3.drew.heap.size = w3.heap.size + 1 := by rw [hv3]; simp
  rw [hv3] at sva hr3a b3a hn3 hsz3 hro3a
  have HP3 := hid (heap_inX hro3); have HN3 := hid hn3; have HRO3A := hid hro3a; have HV3 := hid hv3; have HRO3 := hid hro3; have HB3 := hid bb3; have HB3A := hid b3a; have HSZ := hid hsz3
  clear hro2 bb2 b3 hro3 hn3 b33 hro3a IX hv3 z0 z1 z2 y0 y1 y2 bb3 b3a hr3 hsz3
  go_upto_region 6 with fail
  go_cut [7] (fun v wx => CutX (w.heap.size + 1) w (N + 1) (l.take I ++ ⟨xa, xs, xc⟩ :: l.drop I) v wx)
  case first =>
    go_region_held3 (fun W1 => W1.cell? ⟨w.heap.size, 0, none⟩ = some (.int .i64 xa) ∧ W1.cell? ⟨w.heap.size, 1, none⟩ = some (.int .i64 xs) ∧ W1.cell? ⟨w.heap.size, 2, none⟩ = some (.int .i64 xc))
      (first | (with_reducible exact s6) | (with_reducible exact s5) | (with_reducible exact s4) | (with_reducible exact svd) | (with_reducible exact sv) | (with_reducible exact sva))
      (first
        | (go_at_call_of 50 (A4); (with_reducible refine IA.out.mono ?_); rintro e w6 ⟨A6, c6, rfl, o6, b6⟩; have s6 := cell3 ((b6.block _ (Nat.lt_succ_self _)).trans HP5.out); have O6 := hid o6; have BB6 := hid (HB5.out.trans (b6.mono (Nat.le_succ _))); clear o6 b6)
        | (go_at_call_of 51 (N); (with_reducible refine (CL _ hr3d).mono ?_); rintro e w4 ⟨A4, c4, rfl, o4, b4⟩; have hp4 := below_all b4 (show w3.drew.heap[w.heap.size]? = some (.cells #[.int .i64 xa, .int .i64 xs, .int .i64 xc] 24 (0, 0)) from HRO3.out); have s4 := cell3 hp4; have ba4 := (Below.refl w4.heap.size w4).alloc (Nat.le_refl _) (.cells #[.int .i64 xa, .int .i64 xs, .int .i64 xc] 24); have HP5 := hid (below_all ba4 hp4); have s5 := cell3 HP5.out; have hb4 := b3d.trans (b4.mono b3d.size); have HB5 := hid (hb4.trans (ba4.mono hb4.size)); have IA := hid (IN (w4.alloc (.cells #[.int .i64 xa, .int .i64 xs, .int .i64 xc] 24)) A4 c4 w4.heap.size 1 ((o4.below ba4).mono (Nat.succ_le_of_lt HP3.out)) (Nat.le_trans (Nat.succ_le_of_lt (heap_inX hp4)) ba4.size) (heap_alloc_new w4 _) (fun g hg => by have := (own_block o4 hg).2; omega)); clear o4 b4 ba4 hp4 hb4)
        | (go_at_call_of 51 (N); (with_reducible refine (CL _ hr3a).mono ?_); rintro e w4 ⟨A4, c4, rfl, o4, b4⟩; have HP5 := hid (below_all b4 HRO3A.out); have s4 := cell3 HP5.out; have HB5 := hid (HB3A.out.trans (b4.mono HB3A.out.size)); have hlt := HP3.out; have hsz4 := HSZ.out; have IA := hid (IN w4 A4 c4 w3.heap.size 1 (o4.mono (by rw [hsz4]; omega)) (Nat.succ_le_of_lt (heap_inX HP5.out)) (below_all b4 HN3.out) (fun g hg => by have := (own_block o4 hg).1; omega)); clear o4 b4 hlt hsz4))
    all_goals (go_wp2_with fail; go_meet; exact ⟨_, _, rfl, O6.out, BB6.out⟩)
  case rest =>
    clear sv svd sva hr3d hr3a b3d CL IN
    obtain ⟨A6, c6, rfl, o6, bb6⟩ := hcut
    have RO := Right_any wc A6 c6 (N + 1) _ HLEN.out.symm (by rw [HLEN.out]; omega) o6.rd HOK.out
    rw [HRO2.out] at RO
    have BB := hid bb6
    clear o6 bb6
    go_wp2_with fail
    refine RO.mono ?_
    rintro e w7 ⟨rfl, b7⟩
    go_wp2
    go_ret2
    exact ⟨rfl, BB.out.trans (b7.mono BB.out.size)⟩

theorem Add_err3eq (w : World) (a : Option Addr) (c N : Nat) (l : List Ext) (x : Ext) (hN : N = l.length) (hl : N ≤ 999990) (hr : RdX w a l) (hol : okX l) (hox : x.ok) (hrl : rightX l = true) (hrx : rightX [x] = true) (hI : insI x l = N) (hro2 : rightX (l.take N ++ x :: l.drop N) = false) :
    Calls Try.prog 13 #[.slice a N c, x.val] w fun e w' => e = .returned (.tuple #[.slice none 0 0, .int .i64 2]) ∧ Below w.heap.size w w' := by
  have hlen0 : (l.take N ++ x :: l.drop N).length = N + 1 := by
    rw [List.length_append, List.length_cons, List.length_take, List.length_drop, ← hN]
    omega
  have hok2 : okX (l.take N ++ x :: l.drop N) := okX_mem.2 (by
    intro q hq
    have hol' := okX_mem.1 hol
    simp only [List.mem_append, List.mem_cons] at hq
    rcases hq with hq | hq | hq
    · exact hol' q (List.mem_of_mem_take hq)
    · rw [hq]; exact hox
    · exact hol' q (List.mem_of_mem_drop hq))
  obtain ⟨xa, xs, xc⟩ := x
  have HLEN := hid hlen0; have HOK := hid hok2; have HRO2 := hid hro2
  clear hlen0 hok2 hro2
  have RL := fun W (h : RdX W a l) => Right_any W a c N l hN (by rw [← hN]; omega) h hol
  have RX := fun W (g : Nat) (h : W.heap[g]? = some (.cells #[.int .i64 xa, .int .i64 xs, .int .i64 xc] 24 (0, 0))) => Right_any W (some ⟨g, 0, none⟩) 1 1 [⟨xa, xs, xc⟩] rfl (by simp) (RdX.one h) (okX_mem.2 (by simpa using hox))
  rw [hrl] at RL
  have HN := hid hN
  clear hN
  rw [hrx] at RX
  have hb1 : Below w.heap.size w (w.alloc (.cells #[.int .i64 xa, .int .i64 xs, .int .i64 xc] 24)) := (Below.refl _ _).alloc (Nat.le_refl _) _
  have hro : (w.alloc (.cells #[.int .i64 xa, .int .i64 xs, .int .i64 xc] 24)).heap[w.heap.size]? = some (.cells #[.int .i64 xa, .int .i64 xs, .int .i64 xc] 24 (0, 0)) := heap_alloc_new w _
  have hr1 := hr.below hb1
  have IX := fun W (h : RdX W a l) (hc : W.heap[w.heap.size]? = some (.cells #[.int .i64 xa, .int .i64 xs, .int .i64 xc] 24 (0, 0))) => IndexAdd_any w W w.heap.size a c N l HN.out (by have := HN.out; omega) h ⟨xa, xs, xc⟩ 24 hc
  have hidx : idxV (l.findIdx (fun y => decide ((⟨xa, xs, xc⟩ : Ext).at_ ≤ y.at_))) l.length = -1 := by
    have e : l.findIdx (fun y => decide ((⟨xa, xs, xc⟩ : Ext).at_ ≤ y.at_)) = l.length := hI.trans HN.out
    rw [e, idxV_no]
  rw [hidx] at IX
  have CL := fun W (h : RdX W a l) => CloneX_any W a c N l HN.out (by have := HN.out; omega) h
  have IN := fun W (A : Option Addr) (c' vb vc : Nat) (ho : OwnX (w.heap.size + 1) W A c' l) (hb : w.heap.size + 1 ≤ W.heap.size) (hx : W.heap[vb]? = some (.cells #[.int .i64 xa, .int .i64 xs, .int .i64 xc] 24 (0, 0))) hv => Insert_any (w.heap.size + 1) W A c' N N l HN.out (by omega) (Nat.le_refl _) ho hb vb vc ⟨xa, xs, xc⟩ hx hv
  unfold Ext.val
  have HRO := hid hro; have HI := hid hI; have HR := hid hr; have HR1 := hid hr1
  clear hrl hrx hro hI hidx hr hr1
  simp only
  go_enter Try.func13, Try.ntmps13
  go_wp2_with fail
  refine (RL _ HR1.out).mono ?_
  rintro e w1 ⟨rfl, b1⟩
  have bb1 := hb1.trans (b1.mono hb1.size)
  have hro1 := below_all b1 HRO.out
  obtain ⟨y0, y1, y2⟩ := cell3 hro1
  obtain ⟨w1a, hw1a⟩ : ∃ v, v = w1.alloc (.cells #[.int .i64 xa, .int .i64 xs, .int .i64 xc] 24) := ⟨_, rfl⟩
  have hn1 : w1a.heap[w1.heap.size]? = some (.cells #[.int .i64 xa, .int .i64 xs, .int .i64 xc] 24 (0, 0)) := by rw [hw1a]; exact heap_alloc_new w1 _
  have b1a : Below w1.heap.size w1 w1a := by rw [hw1a]; exact (Below.refl _ _).alloc (Nat.le_refl _) _
  have HN1 := hid hn1; have HW1A := hid hw1a
  have hro1a := below_all b1a hro1
  have bb1a := bb1.trans (b1a.mono bb1.size)
  clear hn1 hw1a RL hro1 b1a b1 bb1 hb1
  go_wp2_with fail
  rw [← HW1A.out]
  refine (RX _ _ HN1.out).mono ?_
  rintro e w2 ⟨rfl, b2⟩
  have bb2 := bb1a.trans (b2.mono bb1a.size)
  have hro2 := below_all b2 hro1a
  clear RX b2 bb1a hro1a y0 y1 y2
  go_wp2_with fail
  refine (IX _ (HR.out.below bb2) hro2).mono ?_
  rintro e w3 ⟨rfl, b3⟩
  have bb3 := bb2.trans (b3.mono bb2.size)
  have hro3 := below_all b3 hro2
  have hr3 := HR.out.below bb3
  obtain ⟨y0, y1, y2⟩ := cell3 hro3
  have sv : w3.cell? ⟨w.heap.size, 0, none⟩ = some (.int .i64 xa) ∧ w3.cell? ⟨w.heap.size, 1, none⟩ = some (.int .i64 xs) ∧ w3.cell? ⟨w.heap.size, 2, none⟩ = some (.int .i64 xc) := ⟨y0, y1, y2⟩
  have svd : w3.drew.cell? ⟨w.heap.size, 0, none⟩ = some (.int .i64 xa) ∧ w3.drew.cell? ⟨w.heap.size, 1, none⟩ = some (.int .i64 xs) ∧ w3.drew.cell? ⟨w.heap.size, 2, none⟩ = some (.int .i64 xc) := ⟨y0, y1, y2⟩
  have hr3d : RdX w3.drew a l := hr3.below (below_drewN2 (Below.refl _ _) 1)
  have b3d : Below w.heap.size w w3.drew := below_drewN2 bb3 1
  -- the two orders of the new block and the copy
  obtain ⟨v3, hv3⟩ : ∃ v, v = (w3.alloc (.cells #[.int .i64 xa, .int .i64 xs, .int .i64 xc] 24)) := ⟨_, rfl⟩
  have hn3 : v3.drew.heap[w3.heap.size]? = some (.cells #[.int .i64 xa, .int .i64 xs, .int .i64 xc] 24 (0, 0)) := by rw [hv3]; exact heap_alloc_new w3 _
  have b33 : Below w3.heap.size w3 v3.drew := by rw [hv3]; exact below_drewN2 ((Below.refl _ _).alloc (Nat.le_refl _) _) 1
  have hr3a := hr3.below b33
  have hro3a := below_all b33 hro3
  obtain ⟨z0, z1, z2⟩ := cell3 hro3a
  have sva : v3.drew.cell? ⟨w.heap.size, 0, none⟩ = some (.int .i64 xa) ∧ v3.drew.cell? ⟨w.heap.size, 1, none⟩ = some (.int .i64 xs) ∧ v3.drew.cell? ⟨w.heap.size, 2, none⟩ = some (.int .i64 xc) := ⟨z0, z1, z2⟩
  have b3a := bb3.trans (b33.mono bb3.size)
  have hsz3 : v3.drew.heap.size = w3.heap.size + 1 := by rw [hv3]; simp
  rw [hv3] at sva hr3a b3a hn3 hsz3 hro3a
  have HP3 := hid (heap_inX hro3); have HN3 := hid hn3; have HRO3A := hid hro3a; have HV3 := hid hv3; have HRO3 := hid hro3; have HB3 := hid bb3; have HB3A := hid b3a; have HSZ := hid hsz3
  clear hro2 bb2 b3 hro3 hn3 b33 hro3a IX hv3 z0 z1 z2 y0 y1 y2 bb3 b3a hr3 hsz3
  go_upto_region 6 with fail
  go_cut [7] (fun v wx => CutX (w.heap.size + 1) w (N + 1) (l.take N ++ ⟨xa, xs, xc⟩ :: l.drop N) v wx)
  case first =>
    go_region_held3 (fun W1 => W1.cell? ⟨w.heap.size, 0, none⟩ = some (.int .i64 xa) ∧ W1.cell? ⟨w.heap.size, 1, none⟩ = some (.int .i64 xs) ∧ W1.cell? ⟨w.heap.size, 2, none⟩ = some (.int .i64 xc))
      (first | (with_reducible exact s6) | (with_reducible exact s5) | (with_reducible exact s4) | (with_reducible exact svd) | (with_reducible exact sv) | (with_reducible exact sva))
      (first
        | (go_at_call_of 50 (A4); (with_reducible refine IA.out.mono ?_); rintro e w6 ⟨A6, c6, rfl, o6, b6⟩; have s6 := cell3 ((b6.block _ (Nat.lt_succ_self _)).trans HP5.out); have O6 := hid o6; have BB6 := hid (HB5.out.trans (b6.mono (Nat.le_succ _))); clear o6 b6)
        | (go_at_call_of 51 (N); (with_reducible refine (CL _ hr3d).mono ?_); rintro e w4 ⟨A4, c4, rfl, o4, b4⟩; have hp4 := below_all b4 (show w3.drew.heap[w.heap.size]? = some (.cells #[.int .i64 xa, .int .i64 xs, .int .i64 xc] 24 (0, 0)) from HRO3.out); have s4 := cell3 hp4; have ba4 := (Below.refl w4.heap.size w4).alloc (Nat.le_refl _) (.cells #[.int .i64 xa, .int .i64 xs, .int .i64 xc] 24); have HP5 := hid (below_all ba4 hp4); have s5 := cell3 HP5.out; have hb4 := b3d.trans (b4.mono b3d.size); have HB5 := hid (hb4.trans (ba4.mono hb4.size)); have IA := hid (IN (w4.alloc (.cells #[.int .i64 xa, .int .i64 xs, .int .i64 xc] 24)) A4 c4 w4.heap.size 1 ((o4.below ba4).mono (Nat.succ_le_of_lt HP3.out)) (Nat.le_trans (Nat.succ_le_of_lt (heap_inX hp4)) ba4.size) (heap_alloc_new w4 _) (fun g hg => by have := (own_block o4 hg).2; omega)); clear o4 b4 ba4 hp4 hb4)
        | (go_at_call_of 51 (N); (with_reducible refine (CL _ hr3a).mono ?_); rintro e w4 ⟨A4, c4, rfl, o4, b4⟩; have HP5 := hid (below_all b4 HRO3A.out); have s4 := cell3 HP5.out; have HB5 := hid (HB3A.out.trans (b4.mono HB3A.out.size)); have hlt := HP3.out; have hsz4 := HSZ.out; have IA := hid (IN w4 A4 c4 w3.heap.size 1 (o4.mono (by rw [hsz4]; omega)) (Nat.succ_le_of_lt (heap_inX HP5.out)) (below_all b4 HN3.out) (fun g hg => by have := (own_block o4 hg).1; omega)); clear o4 b4 hlt hsz4))
    all_goals (go_wp2_with fail; go_meet; exact ⟨_, _, rfl, O6.out, BB6.out⟩)
  case rest =>
    clear sv svd sva hr3d hr3a b3d CL IN
    obtain ⟨A6, c6, rfl, o6, bb6⟩ := hcut
    have RO := Right_any wc A6 c6 (N + 1) _ HLEN.out.symm (by rw [HLEN.out]; omega) o6.rd HOK.out
    rw [HRO2.out] at RO
    have BB := hid bb6
    clear o6 bb6
    go_wp2_with fail
    refine RO.mono ?_
    rintro e w7 ⟨rfl, b7⟩
    go_wp2
    go_ret2
    exact ⟨rfl, BB.out.trans (b7.mono BB.out.size)⟩

set_option linter.unusedVariables false in
theorem Add_EE (w : World) (a : Option Addr) (c N : Nat) (x : Ext) (hN : N = (([] : List Ext) ++ []).length) (hl : N ≤ 999990) (hr : RdX w a (([] : List Ext) ++ [])) (hol : okX (([] : List Ext) ++ [])) (hox : x.ok) (hrl : rightX (([] : List Ext) ++ []) = true) (hrx : rightX [x] = true) (hI : insI x (([] : List Ext) ++ []) = ([] : List Ext).length) (hro2 : rightX (([] : List Ext) ++ x :: []) = true) :
    Calls Try.prog 13 #[.slice a N c, x.val] w fun e w' => ∃ A' c', e = .returned (.tuple #[.slice A' (([] : List Ext) ++ x :: []).length c', .int .i64 0]) ∧ OwnX w.heap.size w' A' c' (([] : List Ext) ++ x :: []) ∧ Below w.heap.size w w' := by
  have hlen0 : (([] : List Ext) ++ x :: []).length = N + 1 := by rw [hN]; simp <;> omega
  have hok2 : okX (([] : List Ext) ++ x :: []) := okX_mem.2 (by
    intro q hq
    have hol' := okX_mem.1 hol
    simp only [List.mem_append, List.mem_cons] at hq hol'
    rcases hq with hq | hq | hq
    · exact hol' q (.inl hq)
    · rw [hq]; exact hox
    · exact hol' q (.inr hq))
  have hIN : N = ([] : List Ext).length := by rw [hN]; simp
  have hI : insI x (([] : List Ext) ++ []) = N := by rw [hI, ← hIN]
  have htk : (([] : List Ext) ++ []).take N = ([] : List Ext) := by rw [hIN]; exact List.take_left
  have hdr : (([] : List Ext) ++ []).drop N = [] := by rw [hIN]; exact List.drop_left
  have hx0 : xat (([] : List Ext) ++ x :: []) N = x := xat_mid _ _ _ _ hIN
  have hnx := rf_at hro2 N (by rw [hlen0]; omega)
  rw [hx0] at hnx
  have hres : (([] : List Ext) ++ x :: []).length = N + 1 := by rw [hN]; simp <;> omega
  rw [hres]
  generalize hL : (([] : List Ext) ++ []) = l at hN hr hol hrl hI htk hdr
  obtain ⟨xa, xs, xc⟩ := x
  simp only [Ext.val] at *
  have HTK := hid htk; have HDR := hid hdr; have HLEN := hid hlen0; have HOK := hid hok2; have HRO2 := hid hro2; have HX0 := hid hx0
  have HLL := hid hL
  have HI0 := hid (show N = 0 from hIN)
  have HIN := hid hIN
  clear htk hdr hlen0 hok2 hro2 hx0 hL hres hnx hIN
  have RL := fun W (h : RdX W a l) => Right_any W a c N l hN (by rw [← hN]; omega) h hol
  have RX := fun W (g : Nat) (h : W.heap[g]? = some (.cells #[.int .i64 xa, .int .i64 xs, .int .i64 xc] 24 (0, 0))) => Right_any W (some ⟨g, 0, none⟩) 1 1 [⟨xa, xs, xc⟩] rfl (by simp) (RdX.one h) (okX_mem.2 (by simpa using hox))
  rw [hrl] at RL
  have HN := hid hN
  clear hN
  rw [hrx] at RX
  have hb1 : Below w.heap.size w (w.alloc (.cells #[.int .i64 xa, .int .i64 xs, .int .i64 xc] 24)) := (Below.refl _ _).alloc (Nat.le_refl _) _
  have hro : (w.alloc (.cells #[.int .i64 xa, .int .i64 xs, .int .i64 xc] 24)).heap[w.heap.size]? = some (.cells #[.int .i64 xa, .int .i64 xs, .int .i64 xc] 24 (0, 0)) := heap_alloc_new w _
  have hr1 := hr.below hb1
  have IX := fun W (h : RdX W a l) (hc : W.heap[w.heap.size]? = some (.cells #[.int .i64 xa, .int .i64 xs, .int .i64 xc] 24 (0, 0))) => IndexAdd_any w W w.heap.size a c N l HN.out (by have := HN.out; omega) h ⟨xa, xs, xc⟩ 24 hc
  have hidx : idxV (l.findIdx (fun y => decide ((⟨xa, xs, xc⟩ : Ext).at_ ≤ y.at_))) l.length = -1 := by
    have e : l.findIdx (fun y => decide ((⟨xa, xs, xc⟩ : Ext).at_ ≤ y.at_)) = l.length := hI.trans HN.out
    rw [e, idxV_no]
  rw [hidx] at IX
  have CL := fun W (h : RdX W a l) => CloneX_any W a c N l HN.out (by have := HN.out; omega) h
  have IN := fun W (A : Option Addr) (c' vb vc : Nat) (ho : OwnX (w.heap.size + 1) W A c' l) (hb : w.heap.size + 1 ≤ W.heap.size) (hx : W.heap[vb]? = some (.cells #[.int .i64 xa, .int .i64 xs, .int .i64 xc] 24 (0, 0))) hv => Insert_any (w.heap.size + 1) W A c' N N l HN.out (by omega) (Nat.le_refl _) ho hb vb vc ⟨xa, xs, xc⟩ hx hv
  have HRO := hid hro; have HI := hid hI; have HR := hid hr; have HR1 := hid hr1
  clear hrl hrx hro hI hidx hr hr1
  go_enter Try.func13, Try.ntmps13
  go_wp2_with fail
  refine (RL _ HR1.out).mono ?_
  rintro e w1 ⟨rfl, b1⟩
  have bb1 := hb1.trans (b1.mono hb1.size)
  have hro1 := below_all b1 HRO.out
  obtain ⟨y0, y1, y2⟩ := cell3 hro1
  obtain ⟨w1a, hw1a⟩ : ∃ v, v = w1.alloc (.cells #[.int .i64 xa, .int .i64 xs, .int .i64 xc] 24) := ⟨_, rfl⟩
  have hn1 : w1a.heap[w1.heap.size]? = some (.cells #[.int .i64 xa, .int .i64 xs, .int .i64 xc] 24 (0, 0)) := by rw [hw1a]; exact heap_alloc_new w1 _
  have b1a : Below w1.heap.size w1 w1a := by rw [hw1a]; exact (Below.refl _ _).alloc (Nat.le_refl _) _
  have HN1 := hid hn1; have HW1A := hid hw1a
  have hro1a := below_all b1a hro1
  have bb1a := bb1.trans (b1a.mono bb1.size)
  clear hn1 hw1a RL hro1 b1a b1 bb1 hb1
  go_wp2_with fail
  rw [← HW1A.out]
  refine (RX _ _ HN1.out).mono ?_
  rintro e w2 ⟨rfl, b2⟩
  have bb2 := bb1a.trans (b2.mono bb1a.size)
  have hro2 := below_all b2 hro1a
  clear RX b2 bb1a hro1a y0 y1 y2
  go_wp2_with fail
  refine (IX _ (HR.out.below bb2) hro2).mono ?_
  rintro e w3 ⟨rfl, b3⟩
  have bb3 := bb2.trans (b3.mono bb2.size)
  have hro3 := below_all b3 hro2
  have hr3 := HR.out.below bb3
  obtain ⟨y0, y1, y2⟩ := cell3 hro3
  have sv : w3.cell? ⟨w.heap.size, 0, none⟩ = some (.int .i64 xa) ∧ w3.cell? ⟨w.heap.size, 1, none⟩ = some (.int .i64 xs) ∧ w3.cell? ⟨w.heap.size, 2, none⟩ = some (.int .i64 xc) := ⟨y0, y1, y2⟩
  have svd : w3.drew.cell? ⟨w.heap.size, 0, none⟩ = some (.int .i64 xa) ∧ w3.drew.cell? ⟨w.heap.size, 1, none⟩ = some (.int .i64 xs) ∧ w3.drew.cell? ⟨w.heap.size, 2, none⟩ = some (.int .i64 xc) := ⟨y0, y1, y2⟩
  have hr3d : RdX w3.drew a l := hr3.below (below_drewN2 (Below.refl _ _) 1)
  have b3d : Below w.heap.size w w3.drew := below_drewN2 bb3 1
  -- the two orders of the new block and the copy
  obtain ⟨v3, hv3⟩ : ∃ v, v = (w3.alloc (.cells #[.int .i64 xa, .int .i64 xs, .int .i64 xc] 24)) := ⟨_, rfl⟩
  have hn3 : v3.drew.heap[w3.heap.size]? = some (.cells #[.int .i64 xa, .int .i64 xs, .int .i64 xc] 24 (0, 0)) := by rw [hv3]; exact heap_alloc_new w3 _
  have b33 : Below w3.heap.size w3 v3.drew := by rw [hv3]; exact below_drewN2 ((Below.refl _ _).alloc (Nat.le_refl _) _) 1
  have hr3a := hr3.below b33
  have hro3a := below_all b33 hro3
  obtain ⟨z0, z1, z2⟩ := cell3 hro3a
  have sva : v3.drew.cell? ⟨w.heap.size, 0, none⟩ = some (.int .i64 xa) ∧ v3.drew.cell? ⟨w.heap.size, 1, none⟩ = some (.int .i64 xs) ∧ v3.drew.cell? ⟨w.heap.size, 2, none⟩ = some (.int .i64 xc) := ⟨z0, z1, z2⟩
  have b3a := bb3.trans (b33.mono bb3.size)
  have hsz3 : v3.drew.heap.size = w3.heap.size + 1 := by rw [hv3]; simp
  rw [hv3] at sva hr3a b3a hn3 hsz3 hro3a
  have HP3 := hid (heap_inX hro3); have HN3 := hid hn3; have HRO3A := hid hro3a; have HV3 := hid hv3; have HRO3 := hid hro3; have HB3 := hid bb3; have HB3A := hid b3a; have HSZ := hid hsz3
  clear hro2 bb2 b3 hro3 hn3 b33 hro3a IX hv3 z0 z1 z2 y0 y1 y2 bb3 b3a hr3 hsz3
  go_upto_region 6 with fail
  go_cut [7] (fun v wx => CutX (w.heap.size + 1) w (N + 1) (l.take N ++ ⟨xa, xs, xc⟩ :: l.drop N) v wx)
  case first =>
    go_region_held3 (fun W1 => W1.cell? ⟨w.heap.size, 0, none⟩ = some (.int .i64 xa) ∧ W1.cell? ⟨w.heap.size, 1, none⟩ = some (.int .i64 xs) ∧ W1.cell? ⟨w.heap.size, 2, none⟩ = some (.int .i64 xc))
      (first | (with_reducible exact s6) | (with_reducible exact s5) | (with_reducible exact s4) | (with_reducible exact svd) | (with_reducible exact sv) | (with_reducible exact sva))
      (first
        | (go_at_call_of 50 (A4); (with_reducible refine IA.out.mono ?_); rintro e w6 ⟨A6, c6, rfl, o6, b6⟩; have s6 := cell3 ((b6.block _ (Nat.lt_succ_self _)).trans HP5.out); have O6 := hid o6; have BB6 := hid (HB5.out.trans (b6.mono (Nat.le_succ _))); clear o6 b6)
        | (go_at_call_of 51 (N); (with_reducible refine (CL _ hr3d).mono ?_); rintro e w4 ⟨A4, c4, rfl, o4, b4⟩; have hp4 := below_all b4 (show w3.drew.heap[w.heap.size]? = some (.cells #[.int .i64 xa, .int .i64 xs, .int .i64 xc] 24 (0, 0)) from HRO3.out); have s4 := cell3 hp4; have ba4 := (Below.refl w4.heap.size w4).alloc (Nat.le_refl _) (.cells #[.int .i64 xa, .int .i64 xs, .int .i64 xc] 24); have HP5 := hid (below_all ba4 hp4); have s5 := cell3 HP5.out; have hb4 := b3d.trans (b4.mono b3d.size); have HB5 := hid (hb4.trans (ba4.mono hb4.size)); have IA := hid (IN (w4.alloc (.cells #[.int .i64 xa, .int .i64 xs, .int .i64 xc] 24)) A4 c4 w4.heap.size 1 ((o4.below ba4).mono (Nat.succ_le_of_lt HP3.out)) (Nat.le_trans (Nat.succ_le_of_lt (heap_inX hp4)) ba4.size) (heap_alloc_new w4 _) (fun g hg => by have := (own_block o4 hg).2; omega)); clear o4 b4 ba4 hp4 hb4)
        | (go_at_call_of 51 (N); (with_reducible refine (CL _ hr3a).mono ?_); rintro e w4 ⟨A4, c4, rfl, o4, b4⟩; have HP5 := hid (below_all b4 HRO3A.out); have s4 := cell3 HP5.out; have HB5 := hid (HB3A.out.trans (b4.mono HB3A.out.size)); have hlt := HP3.out; have hsz4 := HSZ.out; have IA := hid (IN w4 A4 c4 w3.heap.size 1 (o4.mono (by rw [hsz4]; omega)) (Nat.succ_le_of_lt (heap_inX HP5.out)) (below_all b4 HN3.out) (fun g hg => by have := (own_block o4 hg).1; omega)); clear o4 b4 hlt hsz4))
    all_goals (go_wp2_with fail; go_meet; exact ⟨_, _, rfl, O6.out, BB6.out⟩)
  case rest =>
    clear sv svd sva hr3d hr3a b3d CL IN
    obtain ⟨A6, c6, rfl, o6, bb6⟩ := hcut
    rw [HTK.out, HDR.out] at o6
    obtain ⟨g6, rfl, hg6⟩ := own_some o6 (by rw [HLEN.out]; exact Nat.succ_pos _)
    have RO := Right_any wc (some ⟨g6, 0, none⟩) c6 (N + 1) _ HLEN.out.symm (by rw [HLEN.out]; omega) o6.rd HOK.out
    rw [HRO2.out] at RO
    have O := hid o6
    have BB := hid bb6
    obtain ⟨w6, hw6⟩ : ∃ w6, w6 = wc := ⟨_, rfl⟩
    clear o6 bb6
    go_wp2_with fail
    refine RO.mono ?_
    rintro e w7 ⟨rfl, b7⟩
    have o7 := O.out.below b7
    have bb7 := BB.out.trans (b7.mono BB.out.size)
    have O7 := hid o7; have BB7 := hid bb7
    clear RO b7
    have hs1 : decide ((N : Int) + 1 < (N : Int) + 1) = false := decide_eq_false (by omega)
    clear o7 bb7
    go_wp2_with fail
    go_quiet (fail)
    clear hs1
    have o9 := O7.out.below (below_drewN2 (Below.refl _ _) nq)
    have bb9 := below_drewN2 BB7.out nq
    obtain ⟨w9, hw9⟩ : ∃ w9, w9 = w7.drewN nq := ⟨_, rfl⟩
    rw [← hw9] at o9 bb9 ⊢
    have O9 := hid o9; have BB9 := hid bb9; have HW9 := hid hw9
    clear o9 bb9 hw9 O7 BB7
    have hs1 : decide ((0 : Int) < (N : Int)) = false := decide_eq_false (by have := HI0.out; omega)
    have hs1' : decide (0 < N) = false := decide_eq_false (by have := HI0.out; omega)
    go_wp2_with fail
    go_quiet (fail)
    go_wp2
    go_ret2
    exact ⟨_, _, rfl, (O9.out.below (below_drewN2 (Below.refl _ _) _)).mono (Nat.le_succ _), below_drewN2 BB9.out _⟩

set_option linter.unusedVariables false in
theorem Add_EN (w : World) (a : Option Addr) (c N : Nat) (x : Ext) (b : Ext) (k : List Ext) (hj2 : joinsX b x = false) (hN : N = ((k ++ [b]) ++ []).length) (hl : N ≤ 999990) (hr : RdX w a ((k ++ [b]) ++ [])) (hol : okX ((k ++ [b]) ++ [])) (hox : x.ok) (hrl : rightX ((k ++ [b]) ++ []) = true) (hrx : rightX [x] = true) (hI : insI x ((k ++ [b]) ++ []) = (k ++ [b]).length) (hro2 : rightX ((k ++ [b]) ++ x :: []) = true) :
    Calls Try.prog 13 #[.slice a N c, x.val] w fun e w' => ∃ A' c', e = .returned (.tuple #[.slice A' (k ++ [b] ++ x :: []).length c', .int .i64 0]) ∧ OwnX w.heap.size w' A' c' (k ++ [b] ++ x :: []) ∧ Below w.heap.size w w' := by
  have hlen0 : ((k ++ [b]) ++ x :: []).length = N + 1 := by rw [hN]; simp <;> omega
  have hok2 : okX ((k ++ [b]) ++ x :: []) := okX_mem.2 (by
    intro q hq
    have hol' := okX_mem.1 hol
    simp only [List.mem_append, List.mem_cons] at hq hol'
    rcases hq with hq | hq | hq
    · exact hol' q (.inl hq)
    · rw [hq]; exact hox
    · exact hol' q (.inr hq))
  have hIN : N = (k ++ [b]).length := by rw [hN]; simp
  have hI : insI x ((k ++ [b]) ++ []) = N := by rw [hI, ← hIN]
  have htk : ((k ++ [b]) ++ []).take N = (k ++ [b]) := by rw [hIN]; exact List.take_left
  have hdr : ((k ++ [b]) ++ []).drop N = [] := by rw [hIN]; exact List.drop_left
  have hx0 : xat ((k ++ [b]) ++ x :: []) N = x := xat_mid _ _ _ _ hIN
  have hnx := rf_at hro2 N (by rw [hlen0]; omega)
  rw [hx0] at hnx
  obtain ⟨J, hJe⟩ : ∃ J, J = k.length := ⟨_, rfl⟩
  have hIJ : N = J + 1 := by rw [hIN, hJe]; simp
  have hsp : (k ++ [b]) ++ x :: [] = k ++ b :: x :: [] := by simp
  have hl2 : ((k ++ [b]) ++ x :: []).length = N + 1 := by rw [hN]; simp <;> omega
  have hz0 : xat ((k ++ [b]) ++ x :: []) J = b := by rw [hsp]; exact xat_mid _ _ _ _ hJe
  have hz1 : xat ((k ++ [b]) ++ x :: []) N = x := xat_mid _ _ _ _ hIN
  have hnb := rf_at hro2 J (by rw [hlen0]; omega)
  have hb0 : xat ((k ++ [b]) ++ x :: []) J = b := by
    have e : (k ++ [b]) ++ x :: [] = k ++ b :: x :: [] := by simp
    rw [e]; exact xat_mid _ _ _ _ hJe
  rw [hb0] at hnb
  have hres : (k ++ [b] ++ x :: []).length = N + 1 := by rw [hN]; simp <;> omega
  rw [hres]
  generalize hL : ((k ++ [b]) ++ []) = l at hN hr hol hrl hI htk hdr
  obtain ⟨xa, xs, xc⟩ := x
  simp only [Ext.val] at *
  have HTK := hid htk; have HDR := hid hdr; have HLEN := hid hlen0; have HOK := hid hok2; have HRO2 := hid hro2; have HX0 := hid hx0
  have HLL := hid hL
  have HIJ := hid hIJ; have HL2 := hid hl2; have HZ0 := hid hz0; have HZ1 := hid hz1; have HJ2 := hid hj2; have HJE := hid hJe
  have HJB := hid (show (0 ≤ b.at_ ∧ b.at_ ≤ 512) ∧ (1 ≤ b.st ∧ b.st ≤ 512) ∧ (1 ≤ b.ct ∧ b.ct ≤ 1024) from ⟨hnb.1, hnb.2.1, hnb.2.2.1.1, by have := hnb.2.2.1.2; omega⟩)
  have HCB := hid (show ((1 : Int) ≤ b.ct ∧ b.ct ≤ 512) ∧ ((0 : Int) ≤ xc ∧ xc ≤ 2000) from ⟨hnb.2.2.1, by have := hnx.2.2.1; omega⟩)
  have HIN := hid hIN
  clear htk hdr hlen0 hok2 hro2 hx0 hL hres hnx hIJ hl2 hz0 hz1 hj2 hJe hnb hsp hb0 hIN
  have RL := fun W (h : RdX W a l) => Right_any W a c N l hN (by rw [← hN]; omega) h hol
  have RX := fun W (g : Nat) (h : W.heap[g]? = some (.cells #[.int .i64 xa, .int .i64 xs, .int .i64 xc] 24 (0, 0))) => Right_any W (some ⟨g, 0, none⟩) 1 1 [⟨xa, xs, xc⟩] rfl (by simp) (RdX.one h) (okX_mem.2 (by simpa using hox))
  rw [hrl] at RL
  have HN := hid hN
  clear hN
  rw [hrx] at RX
  have hb1 : Below w.heap.size w (w.alloc (.cells #[.int .i64 xa, .int .i64 xs, .int .i64 xc] 24)) := (Below.refl _ _).alloc (Nat.le_refl _) _
  have hro : (w.alloc (.cells #[.int .i64 xa, .int .i64 xs, .int .i64 xc] 24)).heap[w.heap.size]? = some (.cells #[.int .i64 xa, .int .i64 xs, .int .i64 xc] 24 (0, 0)) := heap_alloc_new w _
  have hr1 := hr.below hb1
  have IX := fun W (h : RdX W a l) (hc : W.heap[w.heap.size]? = some (.cells #[.int .i64 xa, .int .i64 xs, .int .i64 xc] 24 (0, 0))) => IndexAdd_any w W w.heap.size a c N l HN.out (by have := HN.out; omega) h ⟨xa, xs, xc⟩ 24 hc
  have hidx : idxV (l.findIdx (fun y => decide ((⟨xa, xs, xc⟩ : Ext).at_ ≤ y.at_))) l.length = -1 := by
    have e : l.findIdx (fun y => decide ((⟨xa, xs, xc⟩ : Ext).at_ ≤ y.at_)) = l.length := hI.trans HN.out
    rw [e, idxV_no]
  rw [hidx] at IX
  have CL := fun W (h : RdX W a l) => CloneX_any W a c N l HN.out (by have := HN.out; omega) h
  have IN := fun W (A : Option Addr) (c' vb vc : Nat) (ho : OwnX (w.heap.size + 1) W A c' l) (hb : w.heap.size + 1 ≤ W.heap.size) (hx : W.heap[vb]? = some (.cells #[.int .i64 xa, .int .i64 xs, .int .i64 xc] 24 (0, 0))) hv => Insert_any (w.heap.size + 1) W A c' N N l HN.out (by omega) (Nat.le_refl _) ho hb vb vc ⟨xa, xs, xc⟩ hx hv
  have HRO := hid hro; have HI := hid hI; have HR := hid hr; have HR1 := hid hr1
  clear hrl hrx hro hI hidx hr hr1
  go_enter Try.func13, Try.ntmps13
  go_wp2_with fail
  refine (RL _ HR1.out).mono ?_
  rintro e w1 ⟨rfl, b1⟩
  have bb1 := hb1.trans (b1.mono hb1.size)
  have hro1 := below_all b1 HRO.out
  obtain ⟨y0, y1, y2⟩ := cell3 hro1
  obtain ⟨w1a, hw1a⟩ : ∃ v, v = w1.alloc (.cells #[.int .i64 xa, .int .i64 xs, .int .i64 xc] 24) := ⟨_, rfl⟩
  have hn1 : w1a.heap[w1.heap.size]? = some (.cells #[.int .i64 xa, .int .i64 xs, .int .i64 xc] 24 (0, 0)) := by rw [hw1a]; exact heap_alloc_new w1 _
  have b1a : Below w1.heap.size w1 w1a := by rw [hw1a]; exact (Below.refl _ _).alloc (Nat.le_refl _) _
  have HN1 := hid hn1; have HW1A := hid hw1a
  have hro1a := below_all b1a hro1
  have bb1a := bb1.trans (b1a.mono bb1.size)
  clear hn1 hw1a RL hro1 b1a b1 bb1 hb1
  go_wp2_with fail
  rw [← HW1A.out]
  refine (RX _ _ HN1.out).mono ?_
  rintro e w2 ⟨rfl, b2⟩
  have bb2 := bb1a.trans (b2.mono bb1a.size)
  have hro2 := below_all b2 hro1a
  clear RX b2 bb1a hro1a y0 y1 y2
  go_wp2_with fail
  refine (IX _ (HR.out.below bb2) hro2).mono ?_
  rintro e w3 ⟨rfl, b3⟩
  have bb3 := bb2.trans (b3.mono bb2.size)
  have hro3 := below_all b3 hro2
  have hr3 := HR.out.below bb3
  obtain ⟨y0, y1, y2⟩ := cell3 hro3
  have sv : w3.cell? ⟨w.heap.size, 0, none⟩ = some (.int .i64 xa) ∧ w3.cell? ⟨w.heap.size, 1, none⟩ = some (.int .i64 xs) ∧ w3.cell? ⟨w.heap.size, 2, none⟩ = some (.int .i64 xc) := ⟨y0, y1, y2⟩
  have svd : w3.drew.cell? ⟨w.heap.size, 0, none⟩ = some (.int .i64 xa) ∧ w3.drew.cell? ⟨w.heap.size, 1, none⟩ = some (.int .i64 xs) ∧ w3.drew.cell? ⟨w.heap.size, 2, none⟩ = some (.int .i64 xc) := ⟨y0, y1, y2⟩
  have hr3d : RdX w3.drew a l := hr3.below (below_drewN2 (Below.refl _ _) 1)
  have b3d : Below w.heap.size w w3.drew := below_drewN2 bb3 1
  -- the two orders of the new block and the copy
  obtain ⟨v3, hv3⟩ : ∃ v, v = (w3.alloc (.cells #[.int .i64 xa, .int .i64 xs, .int .i64 xc] 24)) := ⟨_, rfl⟩
  have hn3 : v3.drew.heap[w3.heap.size]? = some (.cells #[.int .i64 xa, .int .i64 xs, .int .i64 xc] 24 (0, 0)) := by rw [hv3]; exact heap_alloc_new w3 _
  have b33 : Below w3.heap.size w3 v3.drew := by rw [hv3]; exact below_drewN2 ((Below.refl _ _).alloc (Nat.le_refl _) _) 1
  have hr3a := hr3.below b33
  have hro3a := below_all b33 hro3
  obtain ⟨z0, z1, z2⟩ := cell3 hro3a
  have sva : v3.drew.cell? ⟨w.heap.size, 0, none⟩ = some (.int .i64 xa) ∧ v3.drew.cell? ⟨w.heap.size, 1, none⟩ = some (.int .i64 xs) ∧ v3.drew.cell? ⟨w.heap.size, 2, none⟩ = some (.int .i64 xc) := ⟨z0, z1, z2⟩
  have b3a := bb3.trans (b33.mono bb3.size)
  have hsz3 : v3.drew.heap.size = w3.heap.size + 1 := by rw [hv3]; simp
  rw [hv3] at sva hr3a b3a hn3 hsz3 hro3a
  have HP3 := hid (heap_inX hro3); have HN3 := hid hn3; have HRO3A := hid hro3a; have HV3 := hid hv3; have HRO3 := hid hro3; have HB3 := hid bb3; have HB3A := hid b3a; have HSZ := hid hsz3
  clear hro2 bb2 b3 hro3 hn3 b33 hro3a IX hv3 z0 z1 z2 y0 y1 y2 bb3 b3a hr3 hsz3
  go_upto_region 6 with fail
  go_cut [7] (fun v wx => CutX (w.heap.size + 1) w (N + 1) (l.take N ++ ⟨xa, xs, xc⟩ :: l.drop N) v wx)
  case first =>
    go_region_held3 (fun W1 => W1.cell? ⟨w.heap.size, 0, none⟩ = some (.int .i64 xa) ∧ W1.cell? ⟨w.heap.size, 1, none⟩ = some (.int .i64 xs) ∧ W1.cell? ⟨w.heap.size, 2, none⟩ = some (.int .i64 xc))
      (first | (with_reducible exact s6) | (with_reducible exact s5) | (with_reducible exact s4) | (with_reducible exact svd) | (with_reducible exact sv) | (with_reducible exact sva))
      (first
        | (go_at_call_of 50 (A4); (with_reducible refine IA.out.mono ?_); rintro e w6 ⟨A6, c6, rfl, o6, b6⟩; have s6 := cell3 ((b6.block _ (Nat.lt_succ_self _)).trans HP5.out); have O6 := hid o6; have BB6 := hid (HB5.out.trans (b6.mono (Nat.le_succ _))); clear o6 b6)
        | (go_at_call_of 51 (N); (with_reducible refine (CL _ hr3d).mono ?_); rintro e w4 ⟨A4, c4, rfl, o4, b4⟩; have hp4 := below_all b4 (show w3.drew.heap[w.heap.size]? = some (.cells #[.int .i64 xa, .int .i64 xs, .int .i64 xc] 24 (0, 0)) from HRO3.out); have s4 := cell3 hp4; have ba4 := (Below.refl w4.heap.size w4).alloc (Nat.le_refl _) (.cells #[.int .i64 xa, .int .i64 xs, .int .i64 xc] 24); have HP5 := hid (below_all ba4 hp4); have s5 := cell3 HP5.out; have hb4 := b3d.trans (b4.mono b3d.size); have HB5 := hid (hb4.trans (ba4.mono hb4.size)); have IA := hid (IN (w4.alloc (.cells #[.int .i64 xa, .int .i64 xs, .int .i64 xc] 24)) A4 c4 w4.heap.size 1 ((o4.below ba4).mono (Nat.succ_le_of_lt HP3.out)) (Nat.le_trans (Nat.succ_le_of_lt (heap_inX hp4)) ba4.size) (heap_alloc_new w4 _) (fun g hg => by have := (own_block o4 hg).2; omega)); clear o4 b4 ba4 hp4 hb4)
        | (go_at_call_of 51 (N); (with_reducible refine (CL _ hr3a).mono ?_); rintro e w4 ⟨A4, c4, rfl, o4, b4⟩; have HP5 := hid (below_all b4 HRO3A.out); have s4 := cell3 HP5.out; have HB5 := hid (HB3A.out.trans (b4.mono HB3A.out.size)); have hlt := HP3.out; have hsz4 := HSZ.out; have IA := hid (IN w4 A4 c4 w3.heap.size 1 (o4.mono (by rw [hsz4]; omega)) (Nat.succ_le_of_lt (heap_inX HP5.out)) (below_all b4 HN3.out) (fun g hg => by have := (own_block o4 hg).1; omega)); clear o4 b4 hlt hsz4))
    all_goals (go_wp2_with fail; go_meet; exact ⟨_, _, rfl, O6.out, BB6.out⟩)
  case rest =>
    clear sv svd sva hr3d hr3a b3d CL IN
    obtain ⟨A6, c6, rfl, o6, bb6⟩ := hcut
    rw [HTK.out, HDR.out] at o6
    obtain ⟨g6, rfl, hg6⟩ := own_some o6 (by rw [HLEN.out]; exact Nat.succ_pos _)
    have RO := Right_any wc (some ⟨g6, 0, none⟩) c6 (N + 1) _ HLEN.out.symm (by rw [HLEN.out]; omega) o6.rd HOK.out
    rw [HRO2.out] at RO
    have O := hid o6
    have BB := hid bb6
    obtain ⟨w6, hw6⟩ : ∃ w6, w6 = wc := ⟨_, rfl⟩
    clear o6 bb6
    go_wp2_with fail
    refine RO.mono ?_
    rintro e w7 ⟨rfl, b7⟩
    have o7 := O.out.below b7
    have bb7 := BB.out.trans (b7.mono BB.out.size)
    have O7 := hid o7; have BB7 := hid bb7
    clear RO b7
    have hs1 : decide ((N : Int) + 1 < (N : Int) + 1) = false := decide_eq_false (by omega)
    clear o7 bb7
    go_wp2_with fail
    go_quiet (fail)
    clear hs1
    have o9 := O7.out.below (below_drewN2 (Below.refl _ _) nq)
    have bb9 := below_drewN2 BB7.out nq
    obtain ⟨w9, hw9⟩ : ∃ w9, w9 = w7.drewN nq := ⟨_, rfl⟩
    rw [← hw9] at o9 bb9 ⊢
    have O9 := hid o9; have BB9 := hid bb9; have HW9 := hid hw9
    clear o9 bb9 hw9 O7 BB7
    have hJ := HIJ.out
    have q0 := O9.out.at3 J (by rw [HL2.out]; omega)
    have q1 := O9.out.at3 N (by rw [HL2.out]; omega)
    rw [HZ0.out] at q0
    rw [HZ1.out] at q1
    try simp only [merge] at q1
    obtain ⟨p0, p1, p2, p3⟩ := q0
    obtain ⟨r0, r1, r2, r3⟩ := q1
    have hs1 : decide ((0 : Int) < (N : Int)) = true := decide_eq_true (by omega)
    have hs1' : 0 < N := by omega
    have hs2 : IntKind.i64.wrap ((N : Int) - 1) = (N : Int) - 1 := IntWalk.i64_in _ (by omega)
    have hs3 : ((N : Int) - 1).toNat = J := by omega
    have hs4 : (0 : Int) ≤ (N : Int) - 1 := by omega
    have hs4' : (1 : Int) ≤ (N : Int) := by omega
    have hs5 : (N : Int) - 1 < ((N + 1 : Nat) : Int) := by omega
    have hs6 : (N : Int) < ((N + 1 : Nat) : Int) := by omega
    have hs5' : (N : Int) - 1 < ((N : Int) + 1) := by omega
    have hs6' : (N : Int) < ((N : Int) + 1) := by omega
    have hs7 : (0 : Int) ≤ (N : Int) := by omega
    have sw : w9.cell? ⟨g6, J * 3, none⟩ = some (.int .i64 b.at_) ∧ w9.cell? ⟨g6, J * 3 + 1, none⟩ = some (.int .i64 b.st) ∧ w9.cell? ⟨g6, J * 3 + 2, none⟩ = some (.int .i64 b.ct) ∧ w9.cell? ⟨g6, N * 3, none⟩ = some (.int .i64 xa) ∧ w9.cell? ⟨g6, N * 3 + 1, none⟩ = some (.int .i64 xs) ∧ w9.cell? ⟨g6, N * 3 + 2, none⟩ = some (.int .i64 xc) := ⟨p0, p1, p2, r0, r1, r2⟩
    have swd : w9.drew.cell? ⟨g6, J * 3, none⟩ = some (.int .i64 b.at_) ∧ w9.drew.cell? ⟨g6, J * 3 + 1, none⟩ = some (.int .i64 b.st) ∧ w9.drew.cell? ⟨g6, J * 3 + 2, none⟩ = some (.int .i64 b.ct) ∧ w9.drew.cell? ⟨g6, N * 3, none⟩ = some (.int .i64 xa) ∧ w9.drew.cell? ⟨g6, N * 3 + 1, none⟩ = some (.int .i64 xs) ∧ w9.drew.cell? ⟨g6, N * 3 + 2, none⟩ = some (.int .i64 xc) := ⟨p0, p1, p2, r0, r1, r2⟩
    have JO := fun W => joins_any W b ⟨xa, xs, xc⟩ HJB.out
    rw [HJ2.out] at JO
    unfold Ext.val at JO
    try simp only [merge] at JO
    have hbd : Below w9.heap.size w9 w9.drew := below_drewN2 (Below.refl _ _) 1
    clear hJ
    go_wp2_with fail
    go_region_held3 (fun W1 => W1.cell? ⟨g6, J * 3, none⟩ = some (.int .i64 b.at_) ∧ W1.cell? ⟨g6, J * 3 + 1, none⟩ = some (.int .i64 b.st) ∧ W1.cell? ⟨g6, J * 3 + 2, none⟩ = some (.int .i64 b.ct) ∧ W1.cell? ⟨g6, N * 3, none⟩ = some (.int .i64 xa) ∧ W1.cell? ⟨g6, N * 3 + 1, none⟩ = some (.int .i64 xs) ∧ W1.cell? ⟨g6, N * 3 + 2, none⟩ = some (.int .i64 xc))
      (first | (with_reducible exact swb) | (with_reducible exact swd) | (with_reducible exact sw))
      (first
        | (go_at_call 52; (with_reducible refine (JO _).mono ?_); rintro e wb ⟨rfl, bb⟩; have BQ := hid (hbd.trans (bb.mono hbd.size)); have obq := O9.out.below BQ.out; have qb := obq.at3 J (by rw [HL2.out]; have := HIJ.out; omega); have qc := obq.at3 N (by rw [HL2.out]; have := HIJ.out; omega); rw [HZ0.out] at qb; rw [HZ1.out] at qc; (try simp only [merge] at qc); have swb := six_of qb qc; have OB := hid obq; have BBB := hid (BB9.out.trans (BQ.out.mono BB9.out.size)); clear obq qb qc bb))
    clear sw swd p0 p1 p2 p3 r0 r1 r2 r3 O9 BB9
    go_wp2
    go_ret2
    exact ⟨_, _, rfl, OB.out.mono (Nat.le_succ _), BBB.out⟩

set_option linter.unusedVariables false in
theorem Add_EJ (w : World) (a : Option Addr) (c N : Nat) (x : Ext) (b : Ext) (k : List Ext) (hj2 : joinsX b x = true) (hN : N = ((k ++ [b]) ++ []).length) (hl : N ≤ 999990) (hr : RdX w a ((k ++ [b]) ++ [])) (hol : okX ((k ++ [b]) ++ [])) (hox : x.ok) (hrl : rightX ((k ++ [b]) ++ []) = true) (hrx : rightX [x] = true) (hI : insI x ((k ++ [b]) ++ []) = (k ++ [b]).length) (hro2 : rightX ((k ++ [b]) ++ x :: []) = true) :
    Calls Try.prog 13 #[.slice a N c, x.val] w fun e w' => ∃ A' c', e = .returned (.tuple #[.slice A' (k ++ merge b x :: []).length c', .int .i64 0]) ∧ OwnX w.heap.size w' A' c' (k ++ merge b x :: []) ∧ Below w.heap.size w w' := by
  have hlen0 : ((k ++ [b]) ++ x :: []).length = N + 1 := by rw [hN]; simp <;> omega
  have hok2 : okX ((k ++ [b]) ++ x :: []) := okX_mem.2 (by
    intro q hq
    have hol' := okX_mem.1 hol
    simp only [List.mem_append, List.mem_cons] at hq hol'
    rcases hq with hq | hq | hq
    · exact hol' q (.inl hq)
    · rw [hq]; exact hox
    · exact hol' q (.inr hq))
  have hIN : N = (k ++ [b]).length := by rw [hN]; simp
  have hI : insI x ((k ++ [b]) ++ []) = N := by rw [hI, ← hIN]
  have htk : ((k ++ [b]) ++ []).take N = (k ++ [b]) := by rw [hIN]; exact List.take_left
  have hdr : ((k ++ [b]) ++ []).drop N = [] := by rw [hIN]; exact List.drop_left
  have hx0 : xat ((k ++ [b]) ++ x :: []) N = x := xat_mid _ _ _ _ hIN
  have hnx := rf_at hro2 N (by rw [hlen0]; omega)
  rw [hx0] at hnx
  obtain ⟨J, hJe⟩ : ∃ J, J = k.length := ⟨_, rfl⟩
  have hIJ : N = J + 1 := by rw [hIN, hJe]; simp
  have hsp : (k ++ [b]) ++ x :: [] = k ++ b :: x :: [] := by simp
  have hl2 : ((k ++ [b]) ++ x :: []).length = N + 1 := by rw [hN]; simp <;> omega
  have hz0 : xat ((k ++ [b]) ++ x :: []) J = b := by rw [hsp]; exact xat_mid _ _ _ _ hJe
  have hz1 : xat ((k ++ [b]) ++ x :: []) N = x := xat_mid _ _ _ _ hIN
  have hnb := rf_at hro2 J (by rw [hlen0]; omega)
  have hb0 : xat ((k ++ [b]) ++ x :: []) J = b := by
    have e : (k ++ [b]) ++ x :: [] = k ++ b :: x :: [] := by simp
    rw [e]; exact xat_mid _ _ _ _ hJe
  rw [hb0] at hnb
  have hset2 : ((k ++ [b]) ++ x :: []).set J (merge b x) = k ++ merge b x :: x :: [] := by rw [hsp]; exact set_mid _ _ _ _ _ hJe
  have hcut2 : (k ++ merge b x :: x :: []).take N ++ (k ++ merge b x :: x :: []).drop (N + 1) = k ++ merge b x :: [] := by rw [hIJ]; exact cut_mid _ _ _ _ _ hJe
  have hlm2 : (k ++ merge b x :: x :: []).length = N + 1 := by rw [hN]; simp <;> omega
  have hres : (k ++ merge b x :: []).length = N := by rw [hN]; simp <;> omega
  rw [hres]
  generalize hL : ((k ++ [b]) ++ []) = l at hN hr hol hrl hI htk hdr
  obtain ⟨xa, xs, xc⟩ := x
  simp only [Ext.val] at *
  have HTK := hid htk; have HDR := hid hdr; have HLEN := hid hlen0; have HOK := hid hok2; have HRO2 := hid hro2; have HX0 := hid hx0
  have HLL := hid hL
  have HIJ := hid hIJ; have HL2 := hid hl2; have HZ0 := hid hz0; have HZ1 := hid hz1; have HJ2 := hid hj2; have HJE := hid hJe
  have HJB := hid (show (0 ≤ b.at_ ∧ b.at_ ≤ 512) ∧ (1 ≤ b.st ∧ b.st ≤ 512) ∧ (1 ≤ b.ct ∧ b.ct ≤ 1024) from ⟨hnb.1, hnb.2.1, hnb.2.2.1.1, by have := hnb.2.2.1.2; omega⟩)
  have HCB := hid (show ((1 : Int) ≤ b.ct ∧ b.ct ≤ 512) ∧ ((0 : Int) ≤ xc ∧ xc ≤ 2000) from ⟨hnb.2.2.1, by have := hnx.2.2.1; omega⟩)
  have HSET2 := hid hset2; have HCUT2 := hid hcut2; have HLM2 := hid hlm2
  have HIN := hid hIN
  clear htk hdr hlen0 hok2 hro2 hx0 hL hres hnx hIJ hl2 hz0 hz1 hj2 hJe hnb hsp hb0 hset2 hcut2 hlm2 hIN
  have RL := fun W (h : RdX W a l) => Right_any W a c N l hN (by rw [← hN]; omega) h hol
  have RX := fun W (g : Nat) (h : W.heap[g]? = some (.cells #[.int .i64 xa, .int .i64 xs, .int .i64 xc] 24 (0, 0))) => Right_any W (some ⟨g, 0, none⟩) 1 1 [⟨xa, xs, xc⟩] rfl (by simp) (RdX.one h) (okX_mem.2 (by simpa using hox))
  rw [hrl] at RL
  have HN := hid hN
  clear hN
  rw [hrx] at RX
  have hb1 : Below w.heap.size w (w.alloc (.cells #[.int .i64 xa, .int .i64 xs, .int .i64 xc] 24)) := (Below.refl _ _).alloc (Nat.le_refl _) _
  have hro : (w.alloc (.cells #[.int .i64 xa, .int .i64 xs, .int .i64 xc] 24)).heap[w.heap.size]? = some (.cells #[.int .i64 xa, .int .i64 xs, .int .i64 xc] 24 (0, 0)) := heap_alloc_new w _
  have hr1 := hr.below hb1
  have IX := fun W (h : RdX W a l) (hc : W.heap[w.heap.size]? = some (.cells #[.int .i64 xa, .int .i64 xs, .int .i64 xc] 24 (0, 0))) => IndexAdd_any w W w.heap.size a c N l HN.out (by have := HN.out; omega) h ⟨xa, xs, xc⟩ 24 hc
  have hidx : idxV (l.findIdx (fun y => decide ((⟨xa, xs, xc⟩ : Ext).at_ ≤ y.at_))) l.length = -1 := by
    have e : l.findIdx (fun y => decide ((⟨xa, xs, xc⟩ : Ext).at_ ≤ y.at_)) = l.length := hI.trans HN.out
    rw [e, idxV_no]
  rw [hidx] at IX
  have CL := fun W (h : RdX W a l) => CloneX_any W a c N l HN.out (by have := HN.out; omega) h
  have IN := fun W (A : Option Addr) (c' vb vc : Nat) (ho : OwnX (w.heap.size + 1) W A c' l) (hb : w.heap.size + 1 ≤ W.heap.size) (hx : W.heap[vb]? = some (.cells #[.int .i64 xa, .int .i64 xs, .int .i64 xc] 24 (0, 0))) hv => Insert_any (w.heap.size + 1) W A c' N N l HN.out (by omega) (Nat.le_refl _) ho hb vb vc ⟨xa, xs, xc⟩ hx hv
  have HRO := hid hro; have HI := hid hI; have HR := hid hr; have HR1 := hid hr1
  clear hrl hrx hro hI hidx hr hr1
  go_enter Try.func13, Try.ntmps13
  go_wp2_with fail
  refine (RL _ HR1.out).mono ?_
  rintro e w1 ⟨rfl, b1⟩
  have bb1 := hb1.trans (b1.mono hb1.size)
  have hro1 := below_all b1 HRO.out
  obtain ⟨y0, y1, y2⟩ := cell3 hro1
  obtain ⟨w1a, hw1a⟩ : ∃ v, v = w1.alloc (.cells #[.int .i64 xa, .int .i64 xs, .int .i64 xc] 24) := ⟨_, rfl⟩
  have hn1 : w1a.heap[w1.heap.size]? = some (.cells #[.int .i64 xa, .int .i64 xs, .int .i64 xc] 24 (0, 0)) := by rw [hw1a]; exact heap_alloc_new w1 _
  have b1a : Below w1.heap.size w1 w1a := by rw [hw1a]; exact (Below.refl _ _).alloc (Nat.le_refl _) _
  have HN1 := hid hn1; have HW1A := hid hw1a
  have hro1a := below_all b1a hro1
  have bb1a := bb1.trans (b1a.mono bb1.size)
  clear hn1 hw1a RL hro1 b1a b1 bb1 hb1
  go_wp2_with fail
  rw [← HW1A.out]
  refine (RX _ _ HN1.out).mono ?_
  rintro e w2 ⟨rfl, b2⟩
  have bb2 := bb1a.trans (b2.mono bb1a.size)
  have hro2 := below_all b2 hro1a
  clear RX b2 bb1a hro1a y0 y1 y2
  go_wp2_with fail
  refine (IX _ (HR.out.below bb2) hro2).mono ?_
  rintro e w3 ⟨rfl, b3⟩
  have bb3 := bb2.trans (b3.mono bb2.size)
  have hro3 := below_all b3 hro2
  have hr3 := HR.out.below bb3
  obtain ⟨y0, y1, y2⟩ := cell3 hro3
  have sv : w3.cell? ⟨w.heap.size, 0, none⟩ = some (.int .i64 xa) ∧ w3.cell? ⟨w.heap.size, 1, none⟩ = some (.int .i64 xs) ∧ w3.cell? ⟨w.heap.size, 2, none⟩ = some (.int .i64 xc) := ⟨y0, y1, y2⟩
  have svd : w3.drew.cell? ⟨w.heap.size, 0, none⟩ = some (.int .i64 xa) ∧ w3.drew.cell? ⟨w.heap.size, 1, none⟩ = some (.int .i64 xs) ∧ w3.drew.cell? ⟨w.heap.size, 2, none⟩ = some (.int .i64 xc) := ⟨y0, y1, y2⟩
  have hr3d : RdX w3.drew a l := hr3.below (below_drewN2 (Below.refl _ _) 1)
  have b3d : Below w.heap.size w w3.drew := below_drewN2 bb3 1
  -- the two orders of the new block and the copy
  obtain ⟨v3, hv3⟩ : ∃ v, v = (w3.alloc (.cells #[.int .i64 xa, .int .i64 xs, .int .i64 xc] 24)) := ⟨_, rfl⟩
  have hn3 : v3.drew.heap[w3.heap.size]? = some (.cells #[.int .i64 xa, .int .i64 xs, .int .i64 xc] 24 (0, 0)) := by rw [hv3]; exact heap_alloc_new w3 _
  have b33 : Below w3.heap.size w3 v3.drew := by rw [hv3]; exact below_drewN2 ((Below.refl _ _).alloc (Nat.le_refl _) _) 1
  have hr3a := hr3.below b33
  have hro3a := below_all b33 hro3
  obtain ⟨z0, z1, z2⟩ := cell3 hro3a
  have sva : v3.drew.cell? ⟨w.heap.size, 0, none⟩ = some (.int .i64 xa) ∧ v3.drew.cell? ⟨w.heap.size, 1, none⟩ = some (.int .i64 xs) ∧ v3.drew.cell? ⟨w.heap.size, 2, none⟩ = some (.int .i64 xc) := ⟨z0, z1, z2⟩
  have b3a := bb3.trans (b33.mono bb3.size)
  have hsz3 : v3.drew.heap.size = w3.heap.size + 1 := by rw [hv3]; simp
  rw [hv3] at sva hr3a b3a hn3 hsz3 hro3a
  have HP3 := hid (heap_inX hro3); have HN3 := hid hn3; have HRO3A := hid hro3a; have HV3 := hid hv3; have HRO3 := hid hro3; have HB3 := hid bb3; have HB3A := hid b3a; have HSZ := hid hsz3
  clear hro2 bb2 b3 hro3 hn3 b33 hro3a IX hv3 z0 z1 z2 y0 y1 y2 bb3 b3a hr3 hsz3
  go_upto_region 6 with fail
  go_cut [7] (fun v wx => CutX (w.heap.size + 1) w (N + 1) (l.take N ++ ⟨xa, xs, xc⟩ :: l.drop N) v wx)
  case first =>
    go_region_held3 (fun W1 => W1.cell? ⟨w.heap.size, 0, none⟩ = some (.int .i64 xa) ∧ W1.cell? ⟨w.heap.size, 1, none⟩ = some (.int .i64 xs) ∧ W1.cell? ⟨w.heap.size, 2, none⟩ = some (.int .i64 xc))
      (first | (with_reducible exact s6) | (with_reducible exact s5) | (with_reducible exact s4) | (with_reducible exact svd) | (with_reducible exact sv) | (with_reducible exact sva))
      (first
        | (go_at_call_of 50 (A4); (with_reducible refine IA.out.mono ?_); rintro e w6 ⟨A6, c6, rfl, o6, b6⟩; have s6 := cell3 ((b6.block _ (Nat.lt_succ_self _)).trans HP5.out); have O6 := hid o6; have BB6 := hid (HB5.out.trans (b6.mono (Nat.le_succ _))); clear o6 b6)
        | (go_at_call_of 51 (N); (with_reducible refine (CL _ hr3d).mono ?_); rintro e w4 ⟨A4, c4, rfl, o4, b4⟩; have hp4 := below_all b4 (show w3.drew.heap[w.heap.size]? = some (.cells #[.int .i64 xa, .int .i64 xs, .int .i64 xc] 24 (0, 0)) from HRO3.out); have s4 := cell3 hp4; have ba4 := (Below.refl w4.heap.size w4).alloc (Nat.le_refl _) (.cells #[.int .i64 xa, .int .i64 xs, .int .i64 xc] 24); have HP5 := hid (below_all ba4 hp4); have s5 := cell3 HP5.out; have hb4 := b3d.trans (b4.mono b3d.size); have HB5 := hid (hb4.trans (ba4.mono hb4.size)); have IA := hid (IN (w4.alloc (.cells #[.int .i64 xa, .int .i64 xs, .int .i64 xc] 24)) A4 c4 w4.heap.size 1 ((o4.below ba4).mono (Nat.succ_le_of_lt HP3.out)) (Nat.le_trans (Nat.succ_le_of_lt (heap_inX hp4)) ba4.size) (heap_alloc_new w4 _) (fun g hg => by have := (own_block o4 hg).2; omega)); clear o4 b4 ba4 hp4 hb4)
        | (go_at_call_of 51 (N); (with_reducible refine (CL _ hr3a).mono ?_); rintro e w4 ⟨A4, c4, rfl, o4, b4⟩; have HP5 := hid (below_all b4 HRO3A.out); have s4 := cell3 HP5.out; have HB5 := hid (HB3A.out.trans (b4.mono HB3A.out.size)); have hlt := HP3.out; have hsz4 := HSZ.out; have IA := hid (IN w4 A4 c4 w3.heap.size 1 (o4.mono (by rw [hsz4]; omega)) (Nat.succ_le_of_lt (heap_inX HP5.out)) (below_all b4 HN3.out) (fun g hg => by have := (own_block o4 hg).1; omega)); clear o4 b4 hlt hsz4))
    all_goals (go_wp2_with fail; go_meet; exact ⟨_, _, rfl, O6.out, BB6.out⟩)
  case rest =>
    clear sv svd sva hr3d hr3a b3d CL IN
    obtain ⟨A6, c6, rfl, o6, bb6⟩ := hcut
    rw [HTK.out, HDR.out] at o6
    obtain ⟨g6, rfl, hg6⟩ := own_some o6 (by rw [HLEN.out]; exact Nat.succ_pos _)
    have RO := Right_any wc (some ⟨g6, 0, none⟩) c6 (N + 1) _ HLEN.out.symm (by rw [HLEN.out]; omega) o6.rd HOK.out
    rw [HRO2.out] at RO
    have O := hid o6
    have BB := hid bb6
    obtain ⟨w6, hw6⟩ : ∃ w6, w6 = wc := ⟨_, rfl⟩
    clear o6 bb6
    go_wp2_with fail
    refine RO.mono ?_
    rintro e w7 ⟨rfl, b7⟩
    have o7 := O.out.below b7
    have bb7 := BB.out.trans (b7.mono BB.out.size)
    have O7 := hid o7; have BB7 := hid bb7
    clear RO b7
    have hs1 : decide ((N : Int) + 1 < (N : Int) + 1) = false := decide_eq_false (by omega)
    clear o7 bb7
    go_wp2_with fail
    go_quiet (fail)
    clear hs1
    have o9 := O7.out.below (below_drewN2 (Below.refl _ _) nq)
    have bb9 := below_drewN2 BB7.out nq
    obtain ⟨w9, hw9⟩ : ∃ w9, w9 = w7.drewN nq := ⟨_, rfl⟩
    rw [← hw9] at o9 bb9 ⊢
    have O9 := hid o9; have BB9 := hid bb9; have HW9 := hid hw9
    clear o9 bb9 hw9 O7 BB7
    have hJ := HIJ.out
    have q0 := O9.out.at3 J (by rw [HL2.out]; omega)
    have q1 := O9.out.at3 N (by rw [HL2.out]; omega)
    rw [HZ0.out] at q0
    rw [HZ1.out] at q1
    try simp only [merge] at q1
    obtain ⟨p0, p1, p2, p3⟩ := q0
    obtain ⟨r0, r1, r2, r3⟩ := q1
    have hs1 : decide ((0 : Int) < (N : Int)) = true := decide_eq_true (by omega)
    have hs1' : 0 < N := by omega
    have hs2 : IntKind.i64.wrap ((N : Int) - 1) = (N : Int) - 1 := IntWalk.i64_in _ (by omega)
    have hs3 : ((N : Int) - 1).toNat = J := by omega
    have hs4 : (0 : Int) ≤ (N : Int) - 1 := by omega
    have hs4' : (1 : Int) ≤ (N : Int) := by omega
    have hs5 : (N : Int) - 1 < ((N + 1 : Nat) : Int) := by omega
    have hs6 : (N : Int) < ((N + 1 : Nat) : Int) := by omega
    have hs5' : (N : Int) - 1 < ((N : Int) + 1) := by omega
    have hs6' : (N : Int) < ((N : Int) + 1) := by omega
    have hs7 : (0 : Int) ≤ (N : Int) := by omega
    have sw : w9.cell? ⟨g6, J * 3, none⟩ = some (.int .i64 b.at_) ∧ w9.cell? ⟨g6, J * 3 + 1, none⟩ = some (.int .i64 b.st) ∧ w9.cell? ⟨g6, J * 3 + 2, none⟩ = some (.int .i64 b.ct) ∧ w9.cell? ⟨g6, N * 3, none⟩ = some (.int .i64 xa) ∧ w9.cell? ⟨g6, N * 3 + 1, none⟩ = some (.int .i64 xs) ∧ w9.cell? ⟨g6, N * 3 + 2, none⟩ = some (.int .i64 xc) := ⟨p0, p1, p2, r0, r1, r2⟩
    have swd : w9.drew.cell? ⟨g6, J * 3, none⟩ = some (.int .i64 b.at_) ∧ w9.drew.cell? ⟨g6, J * 3 + 1, none⟩ = some (.int .i64 b.st) ∧ w9.drew.cell? ⟨g6, J * 3 + 2, none⟩ = some (.int .i64 b.ct) ∧ w9.drew.cell? ⟨g6, N * 3, none⟩ = some (.int .i64 xa) ∧ w9.drew.cell? ⟨g6, N * 3 + 1, none⟩ = some (.int .i64 xs) ∧ w9.drew.cell? ⟨g6, N * 3 + 2, none⟩ = some (.int .i64 xc) := ⟨p0, p1, p2, r0, r1, r2⟩
    have JO := fun W => joins_any W b ⟨xa, xs, xc⟩ HJB.out
    rw [HJ2.out] at JO
    unfold Ext.val at JO
    try simp only [merge] at JO
    have hbd : Below w9.heap.size w9 w9.drew := below_drewN2 (Below.refl _ _) 1
    clear hJ
    go_wp2_with fail
    go_region_held3 (fun W1 => W1.cell? ⟨g6, J * 3, none⟩ = some (.int .i64 b.at_) ∧ W1.cell? ⟨g6, J * 3 + 1, none⟩ = some (.int .i64 b.st) ∧ W1.cell? ⟨g6, J * 3 + 2, none⟩ = some (.int .i64 b.ct) ∧ W1.cell? ⟨g6, N * 3, none⟩ = some (.int .i64 xa) ∧ W1.cell? ⟨g6, N * 3 + 1, none⟩ = some (.int .i64 xs) ∧ W1.cell? ⟨g6, N * 3 + 2, none⟩ = some (.int .i64 xc))
      (first | (with_reducible exact swb) | (with_reducible exact swd) | (with_reducible exact sw))
      (first
        | (go_at_call 52; (with_reducible refine (JO _).mono ?_); rintro e wb ⟨rfl, bb⟩; have BQ := hid (hbd.trans (bb.mono hbd.size)); have obq := O9.out.below BQ.out; have qb := obq.at3 J (by rw [HL2.out]; have := HIJ.out; omega); have qc := obq.at3 N (by rw [HL2.out]; have := HIJ.out; omega); rw [HZ0.out] at qb; rw [HZ1.out] at qc; (try simp only [merge] at qc); have swb := six_of qb qc; have OB := hid obq; have BBB := hid (BB9.out.trans (BQ.out.mono BB9.out.size)); clear obq qb qc bb))
    clear sw swd p0 p1 p2 p3 r0 r1 r2 r3 O9 BB9
    have q0 := OB.out.at3 J (by rw [HL2.out]; have := HIJ.out; omega)
    have q1 := OB.out.at3 N (by rw [HL2.out]; have := HIJ.out; omega)
    rw [HZ0.out] at q0
    rw [HZ1.out] at q1
    try simp only [merge] at q1
    obtain ⟨p0, p1, p2, p3⟩ := q0
    obtain ⟨r0, r1, r2, r3⟩ := q1
    obtain ⟨hx3, hx4⟩ := HCB.out
    have hs8 : IntKind.i64.wrap (b.ct + xc) = b.ct + xc := IntWalk.i64_in _ (by omega)
    clear swb hs1
    have p3d : wb.drew.frozen? ⟨g6, J * 3 + 2, none⟩ = false := p3
    have oc := (OB.out.setct J (merge b ⟨xa, xs, xc⟩) (by rw [HL2.out]; have := HIJ.out; omega) (by rw [HZ0.out]; rfl) (by rw [HZ0.out]; rfl)).below (below_drewN2 (Below.refl _ _) 1)
    have bc := below_drewN2 (below_set (o := J * 3 + 2) BBB.out (Nat.le_trans (Nat.le_succ _) hg6) (.int .i64 (b.ct + xc))) 1
    rw [HSET2.out] at oc
    have HOC := hid oc; have HBC := hid bc
    clear oc bc
    go_upto_region 13 with fail
    go_cut [] (fun wx => StX (w.heap.size + 1) w g6 c6 (k ++ merge b ⟨xa, xs, xc⟩ :: ⟨xa, xs, xc⟩ :: []) wx)
    case first =>
      go_region_law (fail)
      all_goals (go_wp2_with fail; go_meet; exact ⟨HOC.out, HBC.out⟩)
    case rest =>
    clear HOC HBC
    obtain ⟨OCq, BCq⟩ := hcut
    have DL := Delete_any (w.heap.size + 1) wc g6 c6 (N + 1) N _ HLM2.out.symm (by omega) (by have := HIJ.out; omega) OCq
    rw [HCUT2.out] at DL
    have BCQ := hid BCq
    clear OCq BCq OB BBB p0 p1 p2 p3 p3d r0 r1 r2 r3 hs8 hs2 hs3 hs4 hs4' hs5 hs6 hs5' hs6' hs7 hx3 hx4
    go_wp2_with fail
    refine DL.mono ?_
    rintro e wd ⟨rfl, od, bd⟩
    have BBD := hid (BCQ.out.trans (bd.mono (Nat.le_succ _)))
    have OD := hid (od.mono (Nat.le_succ _))
    clear DL od bd
    go_wp2
    go_ret2
    exact ⟨_, _, rfl, OD.out, BBD.out⟩

end Go.Proofs.Ytahlhdhljjpeoaa
