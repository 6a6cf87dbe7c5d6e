/- Extents: Clone, the closures of Find and Add, IndexFunc over them, joins, Find, Count (printed by gen25a.py). -/
import Derived.Test.YtahlhdhljjpeoaaEp
import Derived.Test.YtahlhdhljjpeoaaExt4
import Derived.Test.YtahlhdhljjpeoaaLow3
import Derived.Lib.SliceRun
namespace Go.Proofs.Ytahlhdhljjpeoaa
open Go.RowKit
set_option maxHeartbeats 3200000
set_option maxRecDepth 100000
set_option linter.unusedVariables false
set_option linter.unusedSimpArgs false

theorem heap_inX {w : World} {g : Nat} {o : Obj} (h : w.heap[g]? = some o) : g < w.heap.size := (Array.getElem?_eq_some_iff.1 h).1
theorem OwnX.empty (w : World) : OwnX w.heap.size (w.alloc (.cells #[] 24)) (some ⟨w.heap.size, 0, none⟩) 0 [] := by
  have h := World.ownsRow_lit (base := w.heap.size) (e := 24) (size := 3) w #[] 0 (Nat.le_refl _) (by simp) (by simp)
  unfold OwnX
  simpa [extCells] using h
/-- An index, or none. -/
def idxV (i n : Nat) : Int := if i < n then (i : Int) else -1
theorem idxV_in {i n : Nat} (h : i < n) : idxV i n = i := if_pos h
theorem idxV_no (n : Nat) : idxV n n = -1 := if_neg (Nat.lt_irrefl _)
theorem CloneX_any (w : World) (a : Option Addr) (c N : Nat) (l : List Ext) (hN : N = l.length) (hl : l.length ≤ 7000000000000) (hr : RdX w a l) :
    Calls Try.prog 51 #[.slice a N c] w fun e w' => ∃ A c', e = .returned (.slice A N c') ∧ OwnX w.heap.size w' A c' l ∧ Below w.heap.size w w' := by
  subst hN
  have ho := OwnX.empty w
  have q := fun (w : World) (a : Option Addr) (n c n' c' : Nat) => Lib.run_eql_slice_nil (P := Try.prog) w 22 _ a n c n' c' Try.underlying22
  cases a with
  | none =>
    have e : l = [] := by
      rcases l with _ | ⟨x, l⟩
      · rfl
      · obtain ⟨b, off, h, _⟩ := hr (by simp [extCells, Ext.cells])
        cases h
    subst e
    go_enter Try.func51, Try.ntmps51
    go_wp2
    go_ret
    exact ⟨none, 0, rfl, OwnX.nil _ _, Below.refl _ _⟩
  | some ad =>
    go_enter Try.func51, Try.ntmps51
    go_wp2_with (at_builtin; refine app_ext rfl (.tmp 5) (.tmp 6) rfl w.heap.size (some ⟨w.heap.size, 0, none⟩) 0 0 [] rfl rfl ho (some ad) l.length c l rfl rfl (RdV.alloc hr _) l.length (by simp) (by simpa using hl) w ((Below.refl _ w).alloc (Nat.le_refl _) _) (by simp) ?_; intro A1 c1 w2 ho2 hb2)
    go_ret
    exact ⟨A1, c1, rfl, by simpa using ho2, hb2⟩

theorem FindIn_any (w : World) (B : Nat) (x : Ext) (n : Int) (hx : (0 ≤ x.at_ ∧ x.at_ ≤ 512) ∧ (1 ≤ x.ct ∧ x.ct ≤ 512)) (hc : w.heap[B]? = some (.cells #[.int .i64 n] 3 (0, 0))) :
    Calls Try.prog 54 #[x.val, .pointer (some ⟨B, 0, none⟩)] w fun e w' => e = .returned (.bool (decide (x.at_ ≤ n ∧ n < x.at_ + x.ct))) ∧ Below w.heap.size w w' := by
  have hcell := cell_of_one hc
  have hcA : ∀ o, (w.alloc o).cell? ⟨B, 0, none⟩ = some (.int .i64 n) := fun o => cell_below ((Below.refl _ w).alloc (Nat.le_refl _) o) hcell
  obtain ⟨xa, xs, xc⟩ := x
  simp only [Ext.val] at *
  obtain ⟨⟨h1, h2⟩, h3, h4⟩ := hx
  clear hc
  by_cases c1 : xa ≤ n
  · by_cases c2 : n < xa + xc
    all_goals
      go_enter Try.func54, Try.ntmps54
      go_wp2
      go_ret
      exact ⟨by simp [c1, c2], (Below.refl _ _).alloc (Nat.le_refl _) _⟩
  · have c1' : decide (xa ≤ n) = false := decide_eq_false c1
    have C1 := hid c1
    clear c1
    go_enter Try.func54, Try.ntmps54
    go_wp2
    go_ret
    exact ⟨by simp [C1.out], (Below.refl _ _).alloc (Nat.le_refl _) _⟩
theorem AddIn_any (w : World) (B : Nat) (y x : Ext) (t : TypeId) (hc : w.heap[B]? = some (.cells #[.int .i64 x.at_, .int .i64 x.st, .int .i64 x.ct] t (0, 0))) :
    Calls Try.prog 49 #[y.val, .pointer (some ⟨B, 0, none⟩)] w fun e w' => e = .returned (.bool (decide (x.at_ ≤ y.at_))) ∧ Below w.heap.size w w' := by
  have hcell : w.cell? ⟨B, 0, none⟩ = some (.int .i64 x.at_) := by rw [cell_of_row _ _ _ _ _ _ hc]; rfl
  have hcA : ∀ o, (w.alloc o).cell? ⟨B, 0, none⟩ = some (.int .i64 x.at_) := fun o => cell_below ((Below.refl _ w).alloc (Nat.le_refl _) o) hcell
  obtain ⟨xa, xs, xc⟩ := x
  obtain ⟨ya, ys, yc⟩ := y
  simp only [Ext.val] at *
  clear hc
  go_enter Try.func49, Try.ntmps49
  go_wp2
  go_ret
  exact ⟨rfl, (Below.refl _ _).alloc (Nat.le_refl _) _⟩
theorem findIdx_at {p : Ext → Bool} : ∀ {l : List Ext} {k : Nat}, k < l.length → p (xat l k) = true → (∀ j, j < k → p (xat l j) = false) → l.findIdx p = k
  | x :: l, 0, _, h, _ => by
    have : p x = true := h
    simp [List.findIdx_cons, this]
  | x :: l, k + 1, hk, h, hj => by
    have h0 : p x = false := hj 0 (by omega)
    have := findIdx_at (p := p) (l := l) (k := k) (by simpa using hk) h (fun j hjk => hj (j + 1) (by omega))
    simp [List.findIdx_cons, h0, this]
theorem findIdx_no {p : Ext → Bool} : ∀ {l : List Ext}, (∀ j, j < l.length → p (xat l j) = false) → l.findIdx p = l.length
  | [], _ => rfl
  | x :: l, hj => by
    have h0 : p x = false := hj 0 (by simp)
    have := findIdx_no (p := p) (l := l) (fun j hjk => hj (j + 1) (by simpa using hjk))
    simp [List.findIdx_cons, h0, this]

theorem IndexFind_any (w0 w : World) (B : Nat) (a : Option Addr) (c N : Nat) (l : List Ext) (hN : N = l.length) (hl : l.length ≤ 7000000000000) (hr : RdX w a l) (n : Int) (hx : ∀ k, k < l.length → (0 ≤ (xat l k).at_ ∧ (xat l k).at_ ≤ 512) ∧ (1 ≤ (xat l k).ct ∧ (xat l k).ct ≤ 512)) (hc : w.heap[B]? = some (.cells #[.int .i64 n] 3 (0, 0))) :
    Calls Try.prog 48 #[.slice a N c, .func (.func 54) #[] #[.pointer (some ⟨B, 0, none⟩)]] w fun e w' => e = .returned (.int .i64 (idxV (l.findIdx (fun x => decide (x.at_ ≤ n ∧ n < x.at_ + x.ct))) l.length)) ∧ Below w.heap.size w w' := by
  subst hN
  obtain ⟨p, hp⟩ : ∃ p : Ext → Bool, p = (fun x => decide (x.at_ ≤ n ∧ n < x.at_ + x.ct)) := ⟨_, rfl⟩
  rw [← hp]
  have CL : ∀ W, Below w.heap.size w W → ∀ k, k < l.length → Calls Try.prog 54 #[(xat l k).val, .pointer (some ⟨B, 0, none⟩)] W fun e w' => e = .returned (.bool (p (xat l k))) ∧ Below W.heap.size W w' := by
    intro W hW k hk
    rw [hp]
    exact FindIn_any W B _ n (hx k hk) ((hW.block _ (heap_inX hc)).trans hc)
  have HP := hid hp
  have HCL := hid CL
  clear hp CL hx hc
  go_enter Try.func48, Try.ntmps48
  go_wp2_with fail
  go_loopw [8] (fun i wr => ∃ k : Nat, k ≤ l.length ∧ i = .int .i64 k ∧ (∀ j, j < k → p (xat l j) = false) ∧ Below w.heap.size w wr) (fun i _ => l.length - (intOf i).toNat)
  case atStart => exact ⟨0, by omega, rfl, fun j hj => absurd hj (Nat.not_lt_zero _), Below.refl _ _⟩
  case round =>
    obtain ⟨k, hk, rfl, hno, hbl⟩ := hrel
    by_cases hlt : k < l.length
    · obtain ⟨b, off, rfl, hcs⟩ := (hr.below hbl).at_ (by intro e; simp [e] at hlt)
      obtain ⟨k0, k1, k2⟩ := hcs k hlt
      have C := HCL.out _ hbl k hlt
      have HNO := hid hno
      clear hcs hno
      unfold Ext.val at C
      go_wp2_with fail
      refine C.mono ?_
      rintro e w1 ⟨rfl, b1⟩
      have hbl1 := hbl.trans (b1.mono hbl.size)
      clear C
      rcases hb : p (xat l k)
      · have HB := hid hb
        clear hb
        go_wp2
        go_roundw
        case rel => exact ⟨k + 1, by omega, by go_num, fun j hj => by
          by_cases e : j = k
          · subst e; exact HB.out
          · exact HNO.out j (by omega), hbl1⟩
        case measure => simp [intOf]; omega
      · have HB := hid hb
        have hfi := findIdx_at hlt hb HNO.out
        have HFI := hid hfi
        clear hb hfi
        go_wp2
        go_ret
        refine ⟨?_, hbl1⟩
        rw [HFI.out, idxV_in hlt]
        rfl
    · obtain rfl : k = l.length := by omega
      have hfi := hid (findIdx_no hno)
      clear hno
      go_wp2
      go_ret
      refine ⟨?_, hbl⟩
      rw [hfi.out, idxV_no]
      rfl

theorem IndexAdd_any (w0 w : World) (B : Nat) (a : Option Addr) (c N : Nat) (l : List Ext) (hN : N = l.length) (hl : l.length ≤ 7000000000000) (hr : RdX w a l) (x : Ext) (t : TypeId) (hc : w.heap[B]? = some (.cells #[.int .i64 x.at_, .int .i64 x.st, .int .i64 x.ct] t (0, 0))) :
    Calls Try.prog 48 #[.slice a N c, .func (.func 49) #[] #[.pointer (some ⟨B, 0, none⟩)]] w fun e w' => e = .returned (.int .i64 (idxV (l.findIdx (fun y => decide (x.at_ ≤ y.at_))) l.length)) ∧ Below w.heap.size w w' := by
  subst hN
  obtain ⟨p, hp⟩ : ∃ p : Ext → Bool, p = (fun y => decide (x.at_ ≤ y.at_)) := ⟨_, rfl⟩
  rw [← hp]
  have CL : ∀ W, Below w.heap.size w W → ∀ k, k < l.length → Calls Try.prog 49 #[(xat l k).val, .pointer (some ⟨B, 0, none⟩)] W fun e w' => e = .returned (.bool (p (xat l k))) ∧ Below W.heap.size W w' := by
    intro W hW k hk
    rw [hp]
    exact AddIn_any W B _ x t ((hW.block _ (heap_inX hc)).trans hc)
  have HP := hid hp
  have HCL := hid CL
  clear hp CL hc
  go_enter Try.func48, Try.ntmps48
  go_wp2_with fail
  go_loopw [8] (fun i wr => ∃ k : Nat, k ≤ l.length ∧ i = .int .i64 k ∧ (∀ j, j < k → p (xat l j) = false) ∧ Below w.heap.size w wr) (fun i _ => l.length - (intOf i).toNat)
  case atStart => exact ⟨0, by omega, rfl, fun j hj => absurd hj (Nat.not_lt_zero _), Below.refl _ _⟩
  case round =>
    obtain ⟨k, hk, rfl, hno, hbl⟩ := hrel
    by_cases hlt : k < l.length
    · obtain ⟨b, off, rfl, hcs⟩ := (hr.below hbl).at_ (by intro e; simp [e] at hlt)
      obtain ⟨k0, k1, k2⟩ := hcs k hlt
      have C := HCL.out _ hbl k hlt
      have HNO := hid hno
      clear hcs hno
      unfold Ext.val at C
      go_wp2_with fail
      refine C.mono ?_
      rintro e w1 ⟨rfl, b1⟩
      have hbl1 := hbl.trans (b1.mono hbl.size)
      clear C
      rcases hb : p (xat l k)
      · have HB := hid hb
        clear hb
        go_wp2
        go_roundw
        case rel => exact ⟨k + 1, by omega, by go_num, fun j hj => by
          by_cases e : j = k
          · subst e; exact HB.out
          · exact HNO.out j (by omega), hbl1⟩
        case measure => simp [intOf]; omega
      · have HB := hid hb
        have hfi := findIdx_at hlt hb HNO.out
        have HFI := hid hfi
        clear hb hfi
        go_wp2
        go_ret
        refine ⟨?_, hbl1⟩
        rw [HFI.out, idxV_in hlt]
        rfl
    · obtain rfl : k = l.length := by omega
      have hfi := hid (findIdx_no hno)
      clear hno
      go_wp2
      go_ret
      refine ⟨?_, hbl⟩
      rw [hfi.out, idxV_no]
      rfl

theorem joins_any (w : World) (x y : Ext) (hx : (0 ≤ x.at_ ∧ x.at_ ≤ 512) ∧ (1 ≤ x.st ∧ x.st ≤ 512) ∧ (1 ≤ x.ct ∧ x.ct ≤ 1024)) :
    Calls Try.prog 52 #[x.val, y.val] w fun e w' => e = .returned (.bool (joinsX x y)) ∧ Below w.heap.size w w' := by
  obtain ⟨xa, xs, xc⟩ := x
  obtain ⟨ya, ys, yc⟩ := y
  simp only [Ext.val, joinsX] at *
  obtain ⟨⟨h1, h2⟩, ⟨h3, h4⟩, h5, h6⟩ := hx
  by_cases c1 : xa + xc = ya
  · have c1' : (xa + xc == ya) = true := by simpa using c1
    have C1 := hid c1
    clear c1
    rcases c2 : (xs + xc == ys)
    all_goals
      have C2 := hid c2
      go_enter Try.func52, Try.ntmps52
      go_wp2
      go_ret
      refine ⟨?_, ((Below.refl _ _).alloc (Nat.le_refl _) _).alloc (by simp) _⟩
      have := C2.out
      simp at this
      simp [C1.out, this]
  · have c1' : (xa + xc == ya) = false := by simpa using c1
    have C1 := hid c1
    clear c1
    go_enter Try.func52, Try.ntmps52
    go_wp2
    go_ret
    exact ⟨by simp [C1.out], ((Below.refl _ _).alloc (Nat.le_refl _) _).alloc (by simp) _⟩
theorem rf_at {l : List Ext} (h : rightX l = true) (k : Nat) (hk : k < l.length) : (0 ≤ (xat l k).at_ ∧ (xat l k).at_ ≤ 512) ∧ (1 ≤ (xat l k).st ∧ (xat l k).st ≤ 512) ∧ (1 ≤ (xat l k).ct ∧ (xat l k).ct ≤ 512) ∧ (xat l k).at_ + (xat l k).ct ≤ 512 ∧ (xat l k).st + (xat l k).ct ≤ 512 := by
  rw [rightX_rf] at h
  refine rf_nums l 0 (Int.le_refl _) h _ ?_
  have e : xat l k = l[k] := by simp [xat, List.getD_eq_getElem?_getD, List.getElem?_eq_getElem hk]
  rw [e]
  exact List.getElem_mem hk
theorem fnd_idx (n : Int) : ∀ l : List Ext, fnd n l = if l.findIdx (fun x => decide (x.at_ ≤ n ∧ n < x.at_ + x.ct)) < l.length then some ((xat l (l.findIdx (fun x => decide (x.at_ ≤ n ∧ n < x.at_ + x.ct)))).st + n - (xat l (l.findIdx (fun x => decide (x.at_ ≤ n ∧ n < x.at_ + x.ct)))).at_) else none
  | [] => rfl
  | x :: l => by
    have ih := fnd_idx n l
    simp only [fnd, List.findIdx_cons]
    by_cases c : x.at_ ≤ n ∧ n < x.at_ + x.ct
    · rw [if_pos c]
      simp [c, xat]
    · rw [if_neg c, ih]
      simp [c, xat]
/-- What Find answers. -/
def fnR (l : List Ext) (n : Int) : Option Int := if rightX l = true then fnd n l else none
def fnV (l : List Ext) (n : Int) : Int := (fnR l n).getD 0
def fnB (l : List Ext) (n : Int) : Bool := (fnR l n).isSome
theorem Find_any (w : World) (a : Option Addr) (c N : Nat) (l : List Ext) (hN : N = l.length) (hl : l.length ≤ 7000000000000) (hr : RdX w a l) (ho : okX l) (n : Int) :
    Calls Try.prog 17 #[.slice a N c, .int .i64 n] w fun e w' => e = .returned (.tuple #[.int .i64 (fnV l n), .bool (fnB l n)]) ∧ Below w.heap.size w w' := by
  subst hN
  have hmf : ∀ (fn : Fn) (first cap : Array Value) (w : World), (Instr.makeFunc fn first cap).run Try.prog w = .ok (.func fn first cap) w := fun _ _ _ _ => rfl
  have RI := fun (W : World) (h : RdX W a l) => Right_any W a c l.length l rfl (by omega) h ho
  have hb1 : Below w.heap.size w (w.alloc (.cells #[.int .i64 n] 3)) := (Below.refl _ _).alloc (Nat.le_refl _) _
  have hrow : (w.alloc (.cells #[.int .i64 n] 3)).heap[w.heap.size]? = some (.cells #[.int .i64 n] 3 (0, 0)) := heap_alloc_new w _
  have hr1 := hr.below hb1
  rcases hR : rightX l
  · have e1 : fnV l n = 0 := by simp [fnV, fnR, hR]
    have e2 : fnB l n = false := by simp [fnB, fnR, hR]
    rw [hR] at RI
    rw [e1, e2]
    clear hR e1 e2 hrow
    go_enter Try.func17, Try.ntmps17
    go_wp2_with fail
    refine (RI _ hr1).mono ?_
    rintro e w1 ⟨rfl, b1⟩
    go_wp2
    go_ret2
    exact ⟨rfl, hb1.trans (b1.mono hb1.size)⟩
  · have hat := rf_at hR
    have IX := fun (W : World) (h : RdX W a l) (hc : W.heap[w.heap.size]? = some (.cells #[.int .i64 n] 3 (0, 0))) => IndexFind_any w W w.heap.size a c l.length l rfl hl h n (fun k hk => ⟨(hat k hk).1, (hat k hk).2.2.1⟩) hc
    have e1 : fnR l n = fnd n l := by simp [fnR, hR]
    rw [fnd_idx] at e1
    rw [hR] at RI
    obtain ⟨I, hI⟩ : ∃ I, I = l.findIdx (fun x => decide (x.at_ ≤ n ∧ n < x.at_ + x.ct)) := ⟨_, rfl⟩
    have hfi : I < l.length → (xat l I).at_ ≤ n ∧ n < (xat l I).at_ + (xat l I).ct := by
      intro h
      have h' := h
      rw [hI] at h'
      have := List.findIdx_getElem (w := h')
      have e : xat l I = l[I] := by simp [xat, List.getD_eq_getElem?_getD, List.getElem?_eq_getElem h]
      rw [e]
      simpa [hI] using this
    rw [← hI] at e1
    simp only [← hI] at IX
    have HAT := hid hat; have HFI := hid hfi
    clear hR hI hat hfi
    by_cases hlt : I < l.length
    · rw [if_pos hlt] at e1
      have v1 : fnV l n = (xat l I).st + n - (xat l I).at_ := by simp [fnV, e1]
      have v2 : fnB l n = true := by simp [fnB, e1]
      rw [v1, v2]
      rw [idxV_in hlt] at IX
      obtain ⟨h1, h2, h3, h4, h5⟩ := HAT.out I hlt
      obtain ⟨h6, h7⟩ := HFI.out hlt
      clear e1 v1 v2
      obtain ⟨b, off, rfl, hcs⟩ := hr.at_ (by intro e; simp [e] at hlt)
      obtain ⟨k0, k1, k2⟩ := hcs I hlt
      generalize (xat l I).at_ = xa at *
      generalize (xat l I).st = xs at *
      generalize (xat l I).ct = xc at *
      clear hcs k2
      go_enter Try.func17, Try.ntmps17
      go_wp2_with fail
      refine (RI _ hr1).mono ?_
      rintro e w1 ⟨rfl, b1⟩
      have bb1 := hb1.trans (b1.mono hb1.size)
      have hrow1 := (b1.block _ (heap_inX hrow)).trans hrow
      go_wp2_with fail
      refine (IX _ (hr.below bb1) hrow1).mono ?_
      rintro e w2 ⟨rfl, b2⟩
      have bb2 := bb1.trans (b2.mono bb1.size)
      have hrow2 := (b2.block _ (heap_inX hrow1)).trans hrow1
      replace k0 := cell_below bb2 k0
      replace k1 := cell_below bb2 k1
      have y0 := cell_of_one hrow2
      have i0 : (0 : Int) ≤ (I : Int) := by omega
      have i1 : (I : Int) < (l.length : Int) := by omega
      have hs1 : IntKind.i64.wrap (xs + n) = xs + n := IntWalk.i64_in _ (by omega)
      have hs2 : IntKind.i64.wrap (xs + n - xa) = xs + n - xa := IntWalk.i64_in _ (by omega)
      have HS1 := hid hs1; have HS2 := hid hs2
      clear hb1 hr1 RI IX b1 b2 hrow hrow1 hrow2 bb1 hs1 hs2
      go_wp2_with fail
      go_quiet (fail)
      go_wp2
      go_ret2
      exact ⟨rfl, below_drewN2 bb2 _⟩
    · rw [if_neg hlt] at e1
      have v1 : fnV l n = 0 := by simp [fnV, e1]
      have v2 : fnB l n = false := by simp [fnB, e1]
      rw [v1, v2]
      have hIe : idxV I l.length = -1 := if_neg hlt
      rw [hIe] at IX
      clear e1 v1 v2 hIe hlt
      go_enter Try.func17, Try.ntmps17
      go_wp2_with fail
      refine (RI _ hr1).mono ?_
      rintro e w1 ⟨rfl, b1⟩
      have bb1 := hb1.trans (b1.mono hb1.size)
      have hrow1 := (b1.block _ (heap_inX hrow)).trans hrow
      go_wp2_with fail
      refine (IX _ (hr.below bb1) hrow1).mono ?_
      rintro e w2 ⟨rfl, b2⟩
      go_wp2
      go_ret2
      exact ⟨rfl, bb1.trans (b2.mono bb1.size)⟩
/-- What Count answers. -/
def cnR (l : List Ext) : Int := if rightX l = true then cntX l else 0
theorem cnt_take (l : List Ext) (k : Nat) (hk : k < l.length) : cntX (l.take (k + 1)) = cntX (l.take k) + (xat l k).ct := by
  rw [List.take_succ_eq_append_getElem hk, cnt_app]
  simp [cntX, xat, List.getD_eq_getElem?_getD, List.getElem?_eq_getElem hk]
theorem Count_any (w : World) (a : Option Addr) (c N : Nat) (l : List Ext) (hN : N = l.length) (hl : l.length ≤ 7000000000000) (hr : RdX w a l) (ho : okX l) :
    Calls Try.prog 16 #[.slice a N c] w fun e w' => e = .returned (.int .i64 (cnR l)) ∧ Below w.heap.size w w' := by
  subst hN
  have RI := Right_any w a c l.length l rfl (by omega) hr ho
  rcases hR : rightX l
  · have e1 : cnR l = 0 := by simp [cnR, hR]
    rw [hR] at RI
    rw [e1]
    clear e1 hR
    go_enter Try.func16, Try.ntmps16
    go_wp2_with fail
    refine RI.mono ?_
    rintro e w1 ⟨rfl, b1⟩
    go_wp2
    go_ret
    exact ⟨rfl, b1⟩
  · have e1 : cnR l = cntX l := by simp [cnR, hR]
    rw [hR] at RI
    rw [e1]
    have hat := rf_at hR
    have hbd : ∀ k, k ≤ l.length → 0 ≤ cntX (l.take k) ∧ cntX (l.take k) ≤ 512 := by
      intro k hk
      rw [rightX_rf] at hR
      have h1 : rf 0 (l.take k) = true := by
        have := rf_app (l.take k) (l.drop k) 0
        rw [List.take_append_drop, hR] at this
        simpa using (Bool.and_eq_true _ _ ▸ this.symm : rf 0 (l.take k) = true ∧ _).1
      have h2 := cnt_le _ _ h1
      have h3 := endF_le _ 0 (by omega) h1
      omega
    have HAT := hid hat; have HBD := hid hbd
    clear e1 hR hat hbd
    go_enter Try.func16, Try.ntmps16
    go_wp2_with fail
    refine RI.mono ?_
    rintro e w1 ⟨rfl, b1⟩
    clear RI
    go_wp2_with fail
    go_loopw [3, 11] (fun x i wr => ∃ k : Nat, k ≤ l.length ∧ i = .int .i64 k ∧ x = .int .i64 (cntX (l.take k)) ∧ Below w.heap.size w wr) (fun _ i _ => l.length - (intOf i).toNat)
    case atStart => exact ⟨0, by omega, rfl, rfl, b1⟩
    case round =>
      obtain ⟨k, hk, rfl, rfl, hbl⟩ := hrel
      by_cases hlt : k < l.length
      · obtain ⟨b, off, rfl, hcs⟩ := (hr.below hbl).at_ (by intro e; simp [e] at hlt)
        obtain ⟨k0, k1, k2⟩ := hcs k hlt
        have h1 := HBD.out k hk
        have h2 := HBD.out (k + 1) (by omega)
        have h3 := cnt_take l k hlt
        rw [h3] at h2
        have H3 := hid h3
        obtain ⟨h4, h5, h6, h7⟩ := HAT.out k hlt
        clear hcs h3
        generalize cntX (l.take k) = s at *
        generalize (xat l k).at_ = xa at *
        generalize (xat l k).st = xs at *
        generalize (xat l k).ct = xc at *
        have hq : Below w.heap.size w wr := hbl
        go_wp2_with fail
        exact ⟨⟨k + 1, by omega, by go_num, by rw [H3.out], hq.alloc hq.size _⟩, by simp [intOf]; omega⟩
      · obtain rfl : k = l.length := by omega
        rw [List.take_of_length_le (Nat.le_refl _)] at *
        have hq : Below w.heap.size w wr := hbl
        go_wp2
        go_ret
        exact ⟨rfl, hq⟩
end Go.Proofs.Ytahlhdhljjpeoaa
