/- extents.Cut. -/
import Derived.Test.YtahlhdhljjpeoaaExF
namespace Go.Proofs.Ytahlhdhljjpeoaa
open Go.RowKit
set_option maxHeartbeats 3200000
set_option maxRecDepth 100000
set_option linter.unusedVariables false
set_option linter.unusedSimpArgs false

/-- append on extents, with what it leaves. -/
theorem app_ext2 {ops : Array Oper} {rest : List Oper} {o : Oper} {a : Act} {Q : Exit → Act → World → Prop} {W : World} (hgd : o.guard = none) (s x : Operand)
    (ho : o.op = .call { callee := .builtin .append, args := #[s, x], argTypes := #[22, 22] })
    (base : Nat) (A0 : Option Addr) (c0 n0 : Nat) (l : List Ext) (hn0 : n0 = l.length) (hs : a.eval s = .slice A0 n0 c0) (HO : OwnX base W A0 c0 l)
    (A : Option Addr) (m c : Nat) (r : List Ext) (hx : a.eval x = .slice A m c) (hl : m = r.length) (HR : RdX W A r)
    (n1 : Nat) (hn1 : n1 = l.length + r.length) (hbytes : l.length + r.length ≤ 7000000000000) (w0 : World) (hB : Below base w0 W) (hbase : base ≤ W.heap.size)
    (h : ∀ A1 c1 w1, OwnX base w1 A1 c1 (l ++ r) → Below base w0 w1 → W.grownBy w1 (Value.slice A0 l.length c0).ownBlock → ((Value.slice A1 n1 c1).ownBlock = (Value.slice A0 l.length c0).ownBlock ∨ (Value.slice A1 n1 c1).ownBlock = some W.heap.size) → wpList Try.prog ops Q rest (a.put o.dst (.slice A1 n1 c1)) w1) :
    wpList Try.prog ops Q (o :: rest) a W := by
  subst hl hn0 hn1
  refine app_own hgd s x 22 24 (.agg #[.int .i64 0, .int .i64 0, .int .i64 0]) 3 24 ho Try.underlying22 info_ext rfl (by decide) (by decide) base _ l.length (extCells l) hs HO A r.length c (extCells r) hx (by rw [extCells_length]; omega) HR (extCells_one r) (by omega) w0 hB hbase ?_
  intro A1 c1 w1 h1 hb h2 h3
  refine h A1 c1 w1 ?_ hb h2 h3
  unfold OwnX
  rw [List.length_append, extCells_append]
  exact h1
theorem cutA_app (t : Int) : ∀ a b, cutA t (a ++ b) = cutA t a ++ cutA t b
  | [], _ => rfl
  | x :: a, b => by simp only [List.cons_append, cutA, cutA_app t a b, List.append_assoc]
theorem cutB_app (t : Int) : ∀ a b, cutB t (a ++ b) = cutB t a ++ cutB t b
  | [], _ => rfl
  | x :: a, b => by simp only [List.cons_append, cutB, cutB_app t a b, List.append_assoc]
/-- The parts of one extent. -/
def cutA1 (t : Int) (x : Ext) : List Ext := if 0 < cutN t x then [⟨x.at_, x.st, cutN t x⟩] else []
def cutB1 (t : Int) (x : Ext) : List Ext := if cutN t x < x.ct then [⟨x.at_ + cutN t x, x.st + cutN t x, x.ct - cutN t x⟩] else []
theorem cutA_take (t : Int) (l : List Ext) (k : Nat) (hk : k < l.length) : cutA t (l.take (k + 1)) = cutA t (l.take k) ++ cutA1 t (xat l k) := by
  have e : xat l k = l[k] := by simp [xat, List.getD_eq_getElem?_getD, List.getElem?_eq_getElem hk]
  rw [List.take_succ_eq_append_getElem hk, cutA_app, e]
  simp [cutA, cutA1]
theorem cutB_take (t : Int) (l : List Ext) (k : Nat) (hk : k < l.length) : cutB t (l.take (k + 1)) = cutB t (l.take k) ++ cutB1 t (xat l k) := by
  have e : xat l k = l[k] := by simp [xat, List.getD_eq_getElem?_getD, List.getElem?_eq_getElem hk]
  rw [List.take_succ_eq_append_getElem hk, cutB_app, e]
  simp [cutB, cutB1]
theorem cutA_le (t : Int) : ∀ l, (cutA t l).length ≤ l.length
  | [] => Nat.le_refl _
  | x :: l => by
    have := cutA_le t l
    simp only [cutA, List.length_append, List.length_cons]
    split <;> simp <;> omega
theorem cutB_le (t : Int) : ∀ l, (cutB t l).length ≤ l.length
  | [] => Nat.le_refl _
  | x :: l => by
    have := cutB_le t l
    simp only [cutB, List.length_append, List.length_cons]
    split <;> simp <;> omega
/-- Two lists of the call's own, in blocks unlike one another. -/
def Two (B : Nat) (w : World) (A : Option Addr) (c : Nat) (l : List Ext) (A2 : Option Addr) (c2 : Nat) (l2 : List Ext) : Prop :=
  OwnX B w A c l ∧ OwnX B w A2 c2 l2 ∧ ∀ b, (Value.slice A l.length c).ownBlock = some b → (Value.slice A2 l2.length c2).ownBlock ≠ some b
theorem ownBlock_len (A : Option Addr) (n m c : Nat) : (Value.slice A n c).ownBlock = (Value.slice A m c).ownBlock := by cases A <;> rfl
theorem own_keep {B : Nat} {W w1 : World} {A : Option Addr} {c : Nat} {l : List Ext} {row : Option Nat} (h : OwnX B W A c l) (hg : W.grownBy w1 row) (hne : ∀ b, row = some b → (Value.slice A l.length c).ownBlock ≠ some b) : OwnX B w1 A c l := by
  obtain ⟨h1, h2, h3, h4, h5⟩ := hg
  refine ⟨h.1, ?_⟩
  rcases h.2 with h0 | ⟨g, cap, cur, hv, hb, hg, r⟩
  · exact .inl h0
  · refine .inr ⟨g, cap, cur, hv, hb, (h5 g (heap_inX hg) (fun e => hne g e.symm ?_)).trans hg, r⟩
    rw [hv]
    rfl
theorem own_ltX {B : Nat} {W : World} {A : Option Addr} {c : Nat} {l : List Ext} (h : OwnX B W A c l) : ∀ b, (Value.slice A l.length c).ownBlock = some b → b < W.heap.size := fun b hb => own_lt h b hb
theorem own_rowkept {B : Nat} {W w1 : World} {A : Option Addr} {c g : Nat} {l : List Ext} {o : Obj} (h : OwnX B W A c l) (hg : W.grownBy w1 (Value.slice A l.length c).ownBlock) (hr : W.heap[g]? = some o) (hne : ¬ (Value.slice A l.length c).ownBlock = some g) : w1.heap[g]? = some o := by
  obtain ⟨h1, h2, h3, h4, h5⟩ := hg
  exact (h5 g (heap_inX hr) (fun e => hne e.symm)).trans hr
theorem Two.left {B : Nat} {W w1 : World} {A A2 A1 : Option Addr} {c c2 c1 n : Nat} {l l2 l1 : List Ext} (h : Two B W A c l A2 c2 l2) (ho : OwnX B w1 A1 c1 l1) (hg : W.grownBy w1 (Value.slice A l.length c).ownBlock) (hb : (Value.slice A1 n c1).ownBlock = (Value.slice A l.length c).ownBlock ∨ (Value.slice A1 n c1).ownBlock = some W.heap.size) : Two B w1 A1 c1 l1 A2 c2 l2 := by
  refine ⟨ho, own_keep h.2.1 hg h.2.2, fun b hbb => ?_⟩
  rw [ownBlock_len A1 l1.length n] at hbb
  rcases hb with e | e
  · exact h.2.2 b (by rw [← e]; exact hbb)
  · intro hx
    have := own_ltX h.2.1 b hx
    rw [e] at hbb
    cases hbb
    omega
theorem Two.swap {B : Nat} {W : World} {A A2 : Option Addr} {c c2 : Nat} {l l2 : List Ext} (h : Two B W A c l A2 c2 l2) : Two B W A2 c2 l2 A c l := ⟨h.2.1, h.1, fun b hb he => h.2.2 b he hb⟩
theorem Two.below {B : Nat} {W w1 : World} {A A2 : Option Addr} {c c2 : Nat} {l l2 : List Ext} (h : Two B W A c l A2 c2 l2) (hb : Below W.heap.size W w1) : Two B w1 A c l A2 c2 l2 := ⟨h.1.below hb, h.2.1.below hb, h.2.2⟩
theorem Cut_err (w : World) (a : Option Addr) (c N : Nat) (l : List Ext) (hN : N = l.length) (hl : N ≤ 1000000) (hr : RdX w a l) (hol : okX l) (t : Int) (ht : rightX l = false ∨ t < 0) :
    Calls Try.prog 15 #[.slice a N c, .int .i64 t] w fun e w' => e = .returned (.tuple #[.slice none 0 0, .slice none 0 0, .int .i64 2]) ∧ Below w.heap.size w w' := by
  have RL := fun W (h : RdX W a l) => Right_any W a c N l hN (by omega) h hol
  have HN := hid hN
  clear hN
  rcases hrl : rightX l
  · rw [hrl] at RL
    clear hrl ht
    go_enter Try.func15, Try.ntmps15
    go_wp2_with fail
    refine (RL _ hr).mono ?_
    rintro e w1 ⟨rfl, b1⟩
    go_wp2
    go_ret3
    exact ⟨rfl, b1⟩
  · have ht' : t < 0 := by
      rcases ht with h | h
      · rw [hrl] at h; cases h
      · exact h
    rw [hrl] at RL
    clear hrl ht
    go_enter Try.func15, Try.ntmps15
    go_wp2_with fail
    refine (RL _ hr).mono ?_
    rintro e w1 ⟨rfl, b1⟩
    go_wp2
    go_ret3
    exact ⟨rfl, b1⟩
theorem Cut_ok (w : World) (a : Option Addr) (c N : Nat) (l : List Ext) (hN : N = l.length) (hl : N ≤ 1000000) (hr : RdX w a l) (hol : okX l) (t : Int) (hrl : rightX l = true) (ht : 0 ≤ t) (ht2 : t ≤ 9223372036854775807) :
    Calls Try.prog 15 #[.slice a N c, .int .i64 t] w fun e w' => ∃ A c1 A2 c2, e = .returned (.tuple #[.slice A (cutA t l).length c1, .slice A2 (cutB t l).length c2, .int .i64 0]) ∧ Two w.heap.size w' A c1 (cutA t l) A2 c2 (cutB t l) ∧ Below w.heap.size w w' := by
  have RL := fun W (h : RdX W a l) => Right_any W a c N l hN (by omega) h hol
  rw [hrl] at RL
  have hat := rf_at hrl
  have HN := hid hN; have HAT := hid hat
  have hnt : ¬ t < 0 := by omega
  have hnt' : decide (t < 0) = false := decide_eq_false hnt
  clear hN hat hrl
  go_enter Try.func15, Try.ntmps15
  go_wp2_with fail
  refine (RL _ hr).mono ?_
  rintro e w1 ⟨rfl, b1⟩
  clear RL
  go_wp2_with fail
  go_loopw [7, 8, 21] (fun x y i wr => ∃ (k : Nat) (A : Option Addr) (c1 : Nat) (A2 : Option Addr) (c2 : Nat), k ≤ N ∧ i = .int .i64 k ∧ x = .slice A (cutA t (l.take k)).length c1 ∧ y = .slice A2 (cutB t (l.take k)).length c2 ∧ Two w.heap.size wr A c1 (cutA t (l.take k)) A2 c2 (cutB t (l.take k)) ∧ Below w.heap.size w wr) (fun _ _ i _ => N - (intOf i).toNat)
  case atStart => exact ⟨0, none, 0, none, 0, by omega, rfl, rfl, rfl, ⟨OwnX.nil _ _, OwnX.nil _ _, fun b hb => by cases hb⟩, b1⟩
  case round =>
    obtain ⟨k, A, c1, A2, c2, hk, rfl, rfl, rfl, hT, hB⟩ := hrel
    obtain ⟨wa, rfl⟩ : ∃ wa, wa = wr := ⟨_, rfl⟩
    by_cases hlt : k < N
    · have hkl : k < l.length := by have := HN.out; omega
      obtain ⟨b, off, rfl, hcs⟩ := (hr.below hB).at_ (by intro e; rw [e] at hkl; simp at hkl)
      obtain ⟨k0, k1, k2⟩ := hcs k hkl
      obtain ⟨n1, n2, n3, n4, n5⟩ := HAT.out k hkl
      have hA := cutA_take t l k hkl
      have hA2 := cutB_take t l k hkl
      have lA := cutA_le t (l.take k)
      have lB := cutB_le t (l.take k)
      rw [List.length_take] at lA lB
      obtain ⟨LA, hLA⟩ : ∃ LA, LA = cutA t (l.take k) := ⟨_, rfl⟩
      obtain ⟨LB, hLB⟩ : ∃ LB, LB = cutB t (l.take k) := ⟨_, rfl⟩
      rw [← hLA] at hA lA hT ⊢
      rw [← hLB] at hA2 lB hT ⊢
      generalize hx : xat l k = x at *
      have HX := hid hx
      clear hx
      obtain ⟨xa, xs, xc⟩ := x
      simp only at k0 k1 k2 n1 n2 n3 n4 n5
      obtain ⟨nn, hn⟩ : ∃ nn, nn = cutN t ⟨xa, xs, xc⟩ := ⟨_, rfl⟩
      have hn' : nn = min (max (t - xa) 0) xc := hn
      simp only [cutA1, cutB1, ← hn] at hA hA2
      obtain ⟨mx, hmx⟩ : ∃ mx, mx = max (t - xa) 0 := ⟨_, rfl⟩
      have hmax : ∀ (ts : Array TypeId) (ty : TypeId) (W : World), (Builtin.max_ ts ty #[.int .i64 (t - xa), .int .i64 0]).run Try.prog W = .ok (.int .i64 mx) W := by
        intro ts ty W
        rw [run_max_int2]
        have : (if (0 : Int) > t - xa then 0 else t - xa) = mx := by rw [hmx]; split <;> omega
        rw [this]
      have hmin : ∀ (ts : Array TypeId) (ty : TypeId) (W : World), (Builtin.min_ ts ty #[.int .i64 mx, .int .i64 xc]).run Try.prog W = .ok (.int .i64 nn) W := by
        intro ts ty W
        rw [run_min_int2]
        have : (if xc < mx then xc else mx) = nn := by rw [hn', hmx]; split <;> omega
        rw [this]
      have hn0 : 0 ≤ nn := by rw [hn']; omega
      have hnx : nn ≤ xc := by rw [hn']; omega
      have HA := hid hA; have HA2 := hid hA2; have HT := hid hT; have HLA := hid hLA; have HLB := hid hLB
      have hwa := hB.size
      have hB' : Below w.heap.size w wa := hB
      clear hA hA2 hT hcs hLA hLB hn hn' hmx
      have ba : ∀ o, Below wa.heap.size wa ((wa.alloc (.cells #[.int .i64 xa, .int .i64 xs, .int .i64 xc] 24)).alloc o) := fun o => ((Below.refl _ _).alloc (Nat.le_refl _) _).alloc (by simp) _
      have T2 := fun o => HT.out.below (ba o)
      have B2 := fun o => hB'.trans ((ba o).mono hwa)
      have R2 : ∀ z : Ext, RdX ((wa.alloc (.cells #[.int .i64 xa, .int .i64 xs, .int .i64 xc] 24)).alloc (.cells #[.int .i64 z.at_, .int .i64 z.st, .int .i64 z.ct] 24)) (some ⟨wa.heap.size + 1, 0, none⟩) [z] := fun z => RdX.lit _ _ _ _ rfl (by simp)
      have hX1 : ∀ o, ((wa.alloc (.cells #[.int .i64 xa, .int .i64 xs, .int .i64 xc] 24)).alloc o).heap[wa.heap.size]? = some (.cells #[.int .i64 xa, .int .i64 xs, .int .i64 xc] 24 (0, 0)) := fun o => (Below.heap_alloc _ _ _ (by simp)).trans (heap_alloc_new wa _)
      have hs2 : ∀ o, w.heap.size ≤ ((wa.alloc (.cells #[.int .i64 xa, .int .i64 xs, .int .i64 xc] 24)).alloc o).heap.size := fun o => Nat.le_trans hwa (ba o).size
      have lA' : LA.length ≤ 1000000 := by omega
      have lB' : LB.length ≤ 1000000 := by omega
      by_cases hp : 0 < nn
      · rw [if_pos hp] at HA
        by_cases hq : nn < xc
        · rw [if_pos hq] at HA2
          go_wp2_with (first
            | (at_builtin; refine app_ext2 rfl (.tmp 48) (.tmp 62) rfl w.heap.size A2 c2 LB.length LB rfl rfl (T4 _).2.1 (some ⟨w3.heap.size, 0, none⟩) 1 1 [⟨xa + nn, xs + nn, xc - nn⟩] rfl rfl (RdX.lit _ _ _ _ rfl rfl) (LB.length + 1) rfl (by simp; omega) w (B4 _) (Nat.le_trans hs3 (by simp)) ?_; intro A5 c5 w5 o5 b5 g5 q5; have T5 := hid (((T4 _).swap.left o5 g5 q5).swap); have B5 := hid b5; clear o5 b5 g5 q5)
            | (at_builtin; refine app_ext2 rfl (.tmp 35) (.tmp 42) rfl w.heap.size A c1 LA.length LA rfl rfl (T2 _).1 (some ⟨wa.heap.size + 1, 0, none⟩) 1 1 [⟨xa, xs, nn⟩] rfl rfl (R2 ⟨xa, xs, nn⟩) (LA.length + 1) rfl (by simp; omega) w (B2 _) (hs2 _) ?_; intro A3 c3 w3 o3 b3 g3 q3; have T3 := hid ((T2 _).left o3 g3 q3); have hX3 := (own_rowkept (T2 _).1 g3 (hX1 _) (fun hb => by have := own_ltX HT.out.1 _ hb; omega)); obtain ⟨y0, y1, y2⟩ := cell3 hX3; have ba3 := fun o => (Below.refl w3.heap.size w3).alloc (Nat.le_refl _) o; have T4 := fun o => T3.out.below (ba3 o); have hs3 := b3.size; have B4 := fun o => b3.trans ((ba3 o).mono b3.size); clear o3 g3 q3))
          refine ⟨⟨k + 1, A3, c3, A5, c5, by omega, by go_num, ?_, ?_, ?_, B5.out⟩, by simp [intOf]; omega⟩
          · rw [HA.out, List.length_append]; rfl
          · rw [HA2.out, List.length_append]; rfl
          · rw [HA.out, HA2.out]; exact T5.out
        · rw [if_neg hq, List.append_nil] at HA2
          go_wp2_with (at_builtin; refine app_ext2 rfl (.tmp 35) (.tmp 42) rfl w.heap.size A c1 LA.length LA rfl rfl (T2 _).1 (some ⟨wa.heap.size + 1, 0, none⟩) 1 1 [⟨xa, xs, nn⟩] rfl rfl (R2 ⟨xa, xs, nn⟩) (LA.length + 1) rfl (by simp; omega) w (B2 _) (hs2 _) ?_; intro A3 c3 w3 o3 b3 g3 q3; have T3 := hid ((T2 _).left o3 g3 q3); have hX3 := (own_rowkept (T2 _).1 g3 (hX1 _) (fun hb => by have := own_ltX HT.out.1 _ hb; omega)); obtain ⟨y0, y1, y2⟩ := cell3 hX3; clear o3 g3 q3)
          refine ⟨⟨k + 1, A3, c3, A2, c2, by omega, by go_num, ?_, ?_, ?_, b3⟩, by simp [intOf]; omega⟩
          · rw [HA.out, List.length_append]; rfl
          · rw [HA2.out]
          · rw [HA.out, HA2.out]; exact T3.out
      · have hq : nn < xc := by omega
        rw [if_neg hp, List.append_nil] at HA
        rw [if_pos hq] at HA2
        obtain rfl : nn = 0 := by omega
        have hR0 := R2 ⟨xa + 0, xs + 0, xc - 0⟩
        simp only [Int.add_zero, Int.sub_zero] at hR0
        go_wp2_with (at_builtin; refine app_ext2 rfl (.tmp 48) (.tmp 62) rfl w.heap.size A2 c2 LB.length LB rfl rfl (T2 _).2.1 (some ⟨wa.heap.size + 1, 0, none⟩) 1 1 [⟨xa, xs, xc⟩] rfl rfl hR0 (LB.length + 1) rfl (by simp; omega) w (B2 _) (hs2 _) ?_; intro A5 c5 w5 o5 b5 g5 q5; have T5 := hid (((T2 _).swap.left o5 g5 q5).swap); have B5 := hid b5; clear o5 b5 g5 q5)
        refine ⟨⟨k + 1, A, c1, A5, c5, by omega, by go_num, ?_, ?_, ?_, B5.out⟩, by simp [intOf]; omega⟩
        · rw [HA.out]
        · rw [HA2.out, List.length_append]; rfl
        · rw [HA.out, HA2.out]
          have := T5.out
          simpa using this
    · have HT := hid hT
      obtain rfl : k = N := by omega
      have e1 : l.take k = l := List.take_of_length_le (by have := HN.out; omega)
      rw [e1] at HT ⊢
      have HB := hid hB
      clear hT hB hlt e1
      go_wp2
      go_ret3
      exact ⟨_, _, _, _, rfl, HT.out, HB.out⟩
end Go.Proofs.Ytahlhdhljjpeoaa
