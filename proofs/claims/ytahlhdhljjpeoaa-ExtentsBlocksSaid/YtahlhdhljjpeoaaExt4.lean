/- Lists of extents of the call's own; append of extents; taken and read. -/
import Derived.Test.YtahlhdhljjpeoaaNode2
import Derived.Test.YtahlhdhljjpeoaaSup3
namespace Go.Proofs.Ytahlhdhljjpeoaa
open Go.RowKit
set_option maxHeartbeats 1600000
set_option linter.unusedVariables false
set_option linter.unusedSimpArgs false

def OwnX (base : Nat) (w : World) (a : Option Addr) (c : Nat) (l : List Ext) : Prop := w.ownsRow base 24 3 (.slice a l.length c) l.length (extCells l)
theorem OwnX.rd {base : Nat} {w : World} {a : Option Addr} {c : Nat} {l : List Ext} (h : OwnX base w a c l) : RdX w a l := RdV.own h
theorem OwnX.below {base : Nat} {w w' : World} {a : Option Addr} {c : Nat} {l : List Ext} (h : OwnX base w a c l) (hb : Below w.heap.size w w') : OwnX base w' a c l := own_below h hb
theorem OwnX.mono {base base' : Nat} {w : World} {a : Option Addr} {c : Nat} {l : List Ext} (h : OwnX base w a c l) (hb : base' ≤ base) : OwnX base' w a c l := own_mono h hb
theorem OwnX.nil (base : Nat) (w : World) : OwnX base w none 0 [] := World.ownsRow_nil w base 24 3
theorem extCells_one (l : List Ext) : ∀ u ∈ extCells l, u.oneCell' = true := by
  induction l with
  | nil => intro u hu; cases hu
  | cons x l ih =>
    intro u hu
    rw [extCells, List.mem_append] at hu
    rcases hu with h | h
    · simp [Ext.cells] at h
      rcases h with rfl | rfl | rfl <;> rfl
    · exact ih u h
theorem info_ext : (Try.prog.info? 24).map (fun i => (i.zero, i.size, i.bytes)) = some (some (.agg #[.int .i64 0, .int .i64 0, .int .i64 0]), 3, 24) := by kernel_rfl
/-- append on extents. -/
theorem app_ext {ops : Array Oper} {rest : List Oper} {o : Oper} {a : Act} {Q : Exit → Act → World → Prop} {W : World} (hgd : o.guard = none) (s x : Operand)
    (ho : o.op = .call { callee := .builtin .append, args := #[s, x], argTypes := #[22, 22] })
    (base : Nat) (A0 : Option Addr) (c0 n0 : Nat) (l : List Ext) (hn0 : n0 = l.length) (hs : a.eval s = .slice A0 n0 c0) (HO : OwnX base W A0 c0 l)
    (A : Option Addr) (m c : Nat) (r : List Ext) (hx : a.eval x = .slice A m c) (hl : m = r.length) (HR : RdX W A r)
    (n1 : Nat) (hn1 : n1 = l.length + r.length) (hbytes : l.length + r.length ≤ 7000000000000) (w0 : World) (hB : Below base w0 W) (hbase : base ≤ W.heap.size)
    (h : ∀ A1 c1 w1, OwnX base w1 A1 c1 (l ++ r) → Below base w0 w1 → wpList Try.prog ops Q rest (a.put o.dst (.slice A1 n1 c1)) w1) :
    wpList Try.prog ops Q (o :: rest) a W := by
  subst hl hn0 hn1
  refine app_own hgd s x 22 24 (.agg #[.int .i64 0, .int .i64 0, .int .i64 0]) 3 24 ho Try.underlying22 info_ext rfl (by decide) (by decide) base _ l.length (extCells l) hs HO A r.length c (extCells r) hx (by rw [extCells_length]; omega) HR (extCells_one r) (by omega) w0 hB hbase ?_
  intro A1 c1 w1 h1 hb h2 h3
  refine h A1 c1 w1 ?_ hb
  unfold OwnX
  rw [List.length_append, extCells_append]
  exact h1
/-- Extents at a place, so many. -/
def xAtB (l : List UInt8) (p : Int) : Ext := ⟨(numV l p 2 : Nat), (numV l (p + 2) 2 : Nat), (numV l (p + 4) 2 : Nat)⟩
def xsAtB (l : List UInt8) (p : Int) (n : Nat) : List Ext := (List.range n).map fun (i : Nat) => xAtB l (p + 6 * (i : Int))
theorem xsAtB_length (l : List UInt8) (p : Int) (n : Nat) : (xsAtB l p n).length = n := by simp [xsAtB]
theorem xsAtB_succ (l : List UInt8) (p : Int) (n : Nat) : xsAtB l p (n + 1) = xsAtB l p n ++ [xAtB l (p + 6 * (n : Int))] := by simp [xsAtB, List.range_succ]
theorem numV2_lt (l : List UInt8) (p : Int) : numV l p 2 < 65536 := numV_lt l p 2
theorem taken1_any (w : World) (B : Nat) (a : Option Addr) (c N : Nat) (l : List UInt8) (hN : N = l.length) (hl : l.length ≤ 200000000000000) (hr : RdB w a l) (hc : w.heap[B]? = some (.cells #[.slice a N c] 61 (0, 0))) (p : Int) (hp : -1000000 ≤ p ∧ p ≤ 1000000) :
    Calls Try.prog 115 #[.int .i64 p, .pointer (some ⟨B, 0, none⟩)] w fun e w' => e = .returned (.int .i64 (numV l p 2 : Nat)) ∧ w = w' := by
  subst hN
  have hcell := cell_of_one hc
  have hx := numV2_lt l p
  go_enter Try.func115, Try.ntmps115
  go_wp2_with fail
  refine (U16_any _ _ _ _ l rfl p hl hr (by omega)).mono ?_
  rintro e w' ⟨rfl, rfl⟩
  go_wp2
  go_ret
  exact ⟨rfl, rfl⟩
theorem RdX.lit (w : World) (cs : Array Value) (t : TypeId) (l : List Ext) (h : cs.toList = extCells l) {g : Nat} (hg : g = w.heap.size) : RdX (w.alloc (.cells cs t)) (some ⟨g, 0, none⟩) l := by
  subst hg
  have := RdV.new w cs t
  rw [h] at this
  exact this
set_option maxRecDepth 100000 in
theorem taken_any (w : World) (a : Option Addr) (c N : Nat) (l : List UInt8) (hN : N = l.length) (hl : l.length ≤ 200000000000000) (hr : RdB w a l) (p : Int) (hp : 0 ≤ p ∧ p ≤ 1000) (n : Nat) (hn : n ≤ 65535) :
    Calls Try.prog 96 #[.slice a N c, .int .i64 p, .int .i64 (n : Int)] w fun e w' => ∃ A c', e = .returned (.slice A n c') ∧ OwnX w.heap.size w' A c' (xsAtB l p n) ∧ Below w.heap.size w w' := by
  subst hN
  have hmf : ∀ (fn : Fn) (first cap : Array Value) (w : World), (Instr.makeFunc fn first cap).run Try.prog w = .ok (.func fn first cap) w := fun _ _ _ _ => rfl
  go_enter Try.func96, Try.ntmps96
  go_wp2_with fail
  obtain ⟨v, hv⟩ : ∃ v, v = w.alloc (.cells #[.slice a l.length c] 61) := ⟨_, rfl⟩
  have bv : Below w.heap.size w v := by rw [hv]; exact (Below.refl _ w).alloc (Nat.le_refl _) _
  have hbv : v.heap[w.heap.size]? = some (.cells #[.slice a l.length c] 61 (0, 0)) := by rw [hv]; exact heap_alloc_new w _
  have hvs : w.heap.size < v.heap.size := by rw [hv]; simp
  have hrv := hr.below bv
  rw [← hv]
  clear hv
  go_loopw [7, 13] (fun x i wr => ∃ (k : Nat) (A : Option Addr) (c' : Nat), k ≤ n ∧ i = .int .i64 k ∧ x = .slice A k c' ∧ OwnX v.heap.size wr A c' (xsAtB l p k) ∧ Below v.heap.size v wr) (fun _ i _ => n - (intOf i).toNat)
  case atStart => exact ⟨0, none, 0, by omega, rfl, rfl, OwnX.nil _ _, Below.refl _ _⟩
  case round =>
    obtain ⟨k, A, c', hk, rfl, rfl, hO, hbl⟩ := hrel
    have hbx := (hbl.block w.heap.size hvs).trans hbv
    by_cases hlt : k < n
    · have hrk := hrv.below hbl
      go_wp2_with fail
      refine (taken1_any _ _ _ _ _ l rfl hl hrk hbx (p + 6 * (k : Int)) (by omega)).mono ?_
      rintro e w' ⟨rfl, rfl⟩
      go_wp2_with fail
      refine (taken1_any _ _ _ _ _ l rfl hl hrk hbx (p + 6 * (k : Int) + 2) (by omega)).mono ?_
      rintro e w' ⟨rfl, rfl⟩
      go_wp2_with fail
      refine (taken1_any _ _ _ _ _ l rfl hl hrk hbx (p + 6 * (k : Int) + 4) (by omega)).mono ?_
      rintro e w' ⟨rfl, rfl⟩
      go_wp2_with (at_builtin; refine app_ext rfl (.tmp 20) (.tmp 33) rfl v.heap.size A c' k (xsAtB l p k) (xsAtB_length _ _ _).symm rfl (hO.below ((Below.refl _ _).alloc (Nat.le_refl _) _)) (some ⟨_, 0, none⟩) 1 1 [xAtB l (p + 6 * (k : Int))] rfl rfl (RdX.lit _ _ _ _ (by simp [extCells, Ext.cells, xAtB]) rfl) (k + 1) (by rw [xsAtB_length]; rfl) (by rw [xsAtB_length]; simp; omega) v (hbl.alloc hbl.size _) (by have := hbl.size; simp; omega) ?_; intro A1 c1 w8 h8 b8)
      go_roundw
      case rel => exact ⟨k + 1, A1, c1, by omega, by go_num, rfl, by rw [xsAtB_succ]; exact h8, b8⟩
      case measure => simp [intOf]; omega
    · obtain rfl : k = n := by omega
      go_wp2
      go_ret
      exact ⟨A, c', rfl, hO.mono bv.size, bv.trans (hbl.mono bv.size)⟩
theorem w64_nat (n : Nat) (h : n < 9223372036854775808) : w64 n = (n : Int) := by unfold w64; rw [if_pos h]
theorem rnumber2_any (w : World) (a : Option Addr) (c N : Nat) (l : List UInt8) (hN : N = l.length) (p : Int) (hl : l.length ≤ 200000000000000) (hr : RdB w a l) (hp : -9223372036854775808 ≤ p ∧ p ≤ 9223372036854775807) :
    Calls Try.prog 109 #[.slice a N c, .int .i64 p, .int .i64 2] w fun e w' => e = .returned (.int .i64 (numV l p 2 : Nat)) ∧ w = w' := by
  have := numV2_lt l p
  have h := rnumber_any w a c N l hN p 2 2 rfl hl hr hp (by decide)
  rw [w64_nat _ (by omega)] at h
  exact h
set_option maxRecDepth 100000 in
theorem read_any (w : World) (a : Option Addr) (c N : Nat) (l : List UInt8) (hN : N = l.length) (hl : l.length ≤ 200000000000000) (hr : RdB w a l) (p : Int) (hp : 0 ≤ p ∧ p ≤ 1000) (n : Nat) (hn : n ≤ 65535) :
    Calls Try.prog 110 #[.slice a N c, .int .i64 p, .int .i64 (n : Int)] w fun e w' => ∃ A c', e = .returned (.slice A n c') ∧ OwnX w.heap.size w' A c' (xsAtB l p n) ∧ Below w.heap.size w w' := by
  subst hN
  go_enter Try.func110, Try.ntmps110
  go_wp2_with fail
  go_loopw [7, 8] (fun x i wr => ∃ (k : Nat) (A : Option Addr) (c' : Nat), k ≤ n ∧ i = .int .i64 k ∧ x = .slice A k c' ∧ OwnX w.heap.size wr A c' (xsAtB l p k) ∧ Below w.heap.size w wr) (fun _ i _ => n - (intOf i).toNat)
  case atStart => exact ⟨0, none, 0, by omega, rfl, rfl, OwnX.nil _ _, Below.refl _ _⟩
  case round =>
    obtain ⟨k, A, c', hk, rfl, rfl, hO, hbl⟩ := hrel
    by_cases hlt : k < n
    · have hrk := hr.below hbl
      go_wp2_with fail
      refine (rnumber2_any _ _ _ _ l rfl (p + 6 * (k : Int)) hl hrk (by omega)).mono ?_
      rintro e w' ⟨rfl, rfl⟩
      go_wp2_with fail
      refine (rnumber2_any _ _ _ _ l rfl (p + 6 * (k : Int) + 2) hl hrk (by omega)).mono ?_
      rintro e w' ⟨rfl, rfl⟩
      go_wp2_with fail
      refine (rnumber2_any _ _ _ _ l rfl (p + 6 * (k : Int) + 4) hl hrk (by omega)).mono ?_
      rintro e w' ⟨rfl, rfl⟩
      go_wp2_with (at_builtin; refine app_ext rfl (.tmp 14) (.tmp 36) rfl w.heap.size A c' k (xsAtB l p k) (xsAtB_length _ _ _).symm rfl (hO.below ((Below.refl _ _).alloc (Nat.le_refl _) _)) (some ⟨_, 0, none⟩) 1 1 [xAtB l (p + 6 * (k : Int))] rfl rfl (RdX.lit _ _ _ _ (by simp [extCells, Ext.cells, xAtB]) rfl) (k + 1) (by rw [xsAtB_length]; rfl) (by rw [xsAtB_length]; simp; omega) w (hbl.alloc hbl.size _) (by have := hbl.size; simp; omega) ?_; intro A1 c1 w8 h8 b8)
      go_roundw
      case rel => exact ⟨k + 1, A1, c1, by omega, by go_num, rfl, by rw [xsAtB_succ]; exact h8, b8⟩
      case measure => simp [intOf]; omega
    · obtain rfl : k = n := by omega
      go_wp2
      go_ret
      exact ⟨A, c', rfl, hO, hbl⟩
end Go.Proofs.Ytahlhdhljjpeoaa
