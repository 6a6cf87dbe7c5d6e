/- ledgerstonelow.ApartBytes over lists in blocks of their own. -/
import Derived.Test.YtknhfaplddgnlaaLow
import Derived.Deep.RegionHeld3
import Derived.Deep.QuietTactic
import Derived.BigQuiet
namespace Go.Proofs.Ytknhfaplddgnlaa
open Go.RowKit
set_option maxHeartbeats 3200000
set_option linter.unusedVariables false
set_option linter.unusedSimpArgs false

theorem below_drew_alloc (w : World) (o : Obj) : Below w.heap.size w (w.drew.alloc o) :=
  have h : Below w.heap.size w w.drew := ⟨rfl, rfl, rfl, Nat.le_refl _, fun _ _ => rfl⟩
  h.alloc (Nat.le_refl _) o
/-- append, and where the row lies then: in its place, or in a block of its own, and nothing old has turned. -/
theorem run_app2 {P : Program} {W : World} (t ty e : TypeId) (i : TypeInfo) (z : Value) (ht : P.underlying t = some (.slice e)) (hi : P.info? e = some i) (hz : i.zero = some z) (hzs : z.cells.size = i.size) (hsz : 0 < i.size)
    (base : Nat) (v : Value) (n : Nat) (xs : List Value) (HO : W.ownsRow base e i.size v n xs)
    (A : Option Addr) (m c : Nat) (ys : List Value) (hl : ys.length = m * i.size) (HR : RdV W A ys) (h1 : ∀ u ∈ ys, u.oneCell' = true)
    (hb0 : 0 < i.bytes) (hbytes : ((n + m) + (n + m) / 4 + 192) * i.bytes ≤ 281474976710656) (hbase : base ≤ W.heap.size) :
    ∃ v1 w1, (Builtin.append_ #[t, t] ty #[v, .slice A m c]).run P W = .ok v1 w1 ∧ w1.ownsRow base e i.size v1 (n + m) (xs ++ ys) ∧ ((v1.ownBlock = v.ownBlock ∧ W.grownBy w1 v.ownBlock) ∨ (v1.ownBlock = some W.heap.size ∧ Below W.heap.size W w1)) := by
  have h63 : n + m ≤ 281474976710656 := by
    have := Nat.le_mul_of_pos_right ((n + m) + (n + m) / 4 + 192) hb0
    omega
  have hmax : n + m ≤ maxLen := by simp only [maxLen]; omega
  by_cases hm : m = 0
  · subst hm
    obtain rfl : ys = [] := List.eq_nil_of_length_eq_zero (by simpa using hl)
    refine ⟨v, W, ?_, by simpa using HO, .inl ⟨rfl, World.grownBy.refl W _⟩⟩
    have hld : ∀ ad, (loadCells ad 0).run P W = .ok #[] W := fun ad => by simpa using run_loadCells_list (P := P) W ad [] (fun j v hj => by simp at hj)
    rcases HO.2 with ⟨rfl, rfl⟩ | ⟨g, cap, cur, rfl, _, _, hnc, _⟩
    · cases A <;> simp [Builtin.append_, run_underlying ht, sizeOf, typeInfo, hi, Builtin.lenOf, Builtin.firstCells, hld]
    · cases A <;> simp [Builtin.append_, run_underlying ht, sizeOf, typeInfo, hi, Builtin.lenOf, Builtin.firstCells, hnc, storeCells, hld]
  · have hpos : 0 < m * i.size := Nat.mul_pos (by omega) hsz
    obtain ⟨b, off, rfl, hc⟩ := HR (fun e => by rw [e] at hl; simp at hl; omega)
    have hnews : ∀ j u, ys[j]? = some u → W.cell? ((⟨b, off, none⟩ : Addr).add j) = some u := fun j u hu => by rw [add_plain]; exact hc j u hu
    rcases HO.2 with ⟨rfl, rfl⟩ | ⟨g, cap, cur, rfl, hbg, hg, hnc, hcm, hcs, htake⟩
    · obtain rfl : xs = [] := List.eq_nil_of_length_eq_zero (by simpa using HO.1)
      have hr := run_append_nil (P := P) W t ty e i z ht hi hz ⟨b, off, none⟩ m c ys hl hnews (by omega) (by omega) (Nat.le_trans (Nat.mul_le_mul_right _ (by omega)) hbytes)
      refine ⟨_, _, hr, ?_, .inr ⟨rfl, below_drew_alloc W _⟩⟩
      have := own_grown (W := W) (base := base) (e := e) (z := z) (n := m) hl hzs (grownCap_ge W m 0 e) (grownCap_le_maxLen W m 0 e (by omega)) hbase
      simpa using this
    · by_cases hroom : n + m ≤ cap
      · have hfit : n * i.size + ys.length ≤ cur.size := by rw [hl, hcs, ← Nat.add_mul]; exact Nat.mul_le_mul_right _ hroom
        have hr := run_append_room (P := P) W t ty e i ht hi g n cap cur hg ⟨b, off, none⟩ m c ys hl hnews h1 hroom hfit
        have ho := own_room hg hbg hcm hcs htake hl hroom
        exact ⟨_, _, hr, ho.1, .inl ⟨rfl, ho.2⟩⟩
      · have holds : ∀ j u, xs[j]? = some u → W.cell? ((⟨g, 0, none⟩ : Addr).add j) = some u := HO.cells (g := g) rfl
        have hr := run_append_grow (P := P) W t ty e i z ht hi hz ⟨g, 0, none⟩ n cap xs HO.1 holds ⟨b, off, none⟩ m c ys hl hnews (by omega) (by omega) (growslice_fits_wide (by omega) hbytes)
        refine ⟨_, _, hr, ?_, .inr ⟨rfl, below_drew_alloc W _⟩⟩
        have := own_grown (W := W) (base := base) (e := e) (z := z) (n := n + m) (xs := xs ++ ys) (by rw [List.length_append, HO.1, hl, Nat.add_mul]) hzs (grownCap_ge W (n + m) cap e) (grownCap_le_maxLen W (n + m) cap e hmax) hbase
        simpa using this
section
variable {ops : Array Oper} {rest : List Oper} {o : Oper} {a : Act} {Q : Exit → Act → World → Prop}
/-- append on bytes: in its place, or in a block of its own. -/
theorem app_bytes2 {W : World} (hgd : o.guard = none) (s x : Operand)
    (ho : o.op = .call { callee := .builtin .append, args := #[s, x], argTypes := #[31, 31] })
    (base : Nat) (A0 : Option Addr) (c0 n0 : Nat) (l : List UInt8) (hn0 : n0 = l.length) (hs : a.eval s = .slice A0 n0 c0) (HO : OwnB base W A0 c0 l)
    (A : Option Addr) (m c : Nat) (r : List UInt8) (hx : a.eval x = .slice A m c) (hl : m = r.length) (HR : RdB W A r)
    (n1 : Nat) (hn1 : n1 = l.length + r.length) (hbytes : l.length + r.length ≤ 200000000000000) (hbase : base ≤ W.heap.size)
    (h : ∀ A1 c1 w1, OwnB base w1 A1 c1 (l ++ r) → ((A1.map (·.block) = A0.map (·.block) ∧ W.grownBy w1 (A0.map (·.block))) ∨ (A1.map (·.block) = some W.heap.size ∧ Below W.heap.size W w1)) →
      wpList Try.prog ops Q rest (a.put o.dst (.slice A1 n1 c1)) w1) :
    wpList Try.prog ops Q (o :: rest) a W := by
  subst hl hn0 hn1
  obtain ⟨i0, hi, hz0, hz1, hz2⟩ := info_parts info_u8
  have hi1 : i0.size = 1 := hz1
  have HO' : W.ownsRow base 5 i0.size (.slice A0 l.length c0) l.length (B8s l) := by rw [hz1]; exact HO
  obtain ⟨v1, w1, hr, h1, h2⟩ := run_app2 (W := W) 31 o.type 5 i0 (.int .u8 0) Try.underlying31 hi hz0 (by rw [hz1]; rfl) (by rw [hz1]; decide) base _ l.length (B8s l) HO' A r.length c (B8s r) (by simp [B8s, hz1]) HR (B8s_one r) (by rw [hz2]; decide) (by rw [hz2]; omega) hbase
  obtain ⟨A1, c1, rfl, _⟩ := own_slice h1
  refine wpList_plain hgd fun K hK => ?_
  unfold Oper.wp execOp
  simp only [ho, resolve, invoke, builtin, Sem.run_bind, Sem.run_pure, Result.andThen_ok, List.map_toArray, List.map_cons, List.map_nil, hs, hx, hr]
  refine hK _ _ (h A1 c1 w1 ?_ ?_)
  · unfold OwnB
    rw [List.length_append, B8s_append]
    rw [hz1] at h1
    exact h1
  · cases A1 <;> cases A0 <;> simp [Value.ownBlock] at h2 ⊢ <;> exact h2
end
end Go.Proofs.Ytknhfaplddgnlaa
