/- Rows of images; append within a region. -/
import Derived.Test.YtknhfaplddgnlaaRecG
import Derived.Deep.DeepCutAuto
namespace Go.Proofs.Ytknhfaplddgnlaa
open Go.RowKit
set_option maxHeartbeats 1000000
set_option maxRecDepth 100000
set_option linter.unusedVariables false
set_option linter.unusedSimpArgs false

theorem below_drw {B : Nat} {w W : World} (h : Below B w W) : Below B w W.drew := ⟨h.os, h.tape, h.output, h.size, h.block⟩
/-- append within a region, on a row of the call's own. -/
theorem step_own {ops : Array Oper} {o : Oper} {a : Act} {W : World} {K : Act → World → Prop} {Q : Exit → Act → World → Prop} {E : Prop} (hgd : o.guard = none) (s x : Operand) (t e : TypeId) (z : Value) (size bytes : Nat)
    (ho : o.op = .call { callee := .builtin .append, args := #[s, x], argTypes := #[t, t] })
    (ht : Try.prog.underlying t = some (.slice e)) (hinfo : (Try.prog.info? e).map (fun i => (i.zero, i.size, i.bytes)) = some (some z, size, bytes)) (hzs : z.cells.size = size) (hsz : 0 < size) (hb0 : 0 < bytes)
    (base : Nat) (A0 : Option Addr) (c0 n : Nat) (xs : List Value) (hs : a.eval s = .slice A0 n c0) (HO : W.ownsRow base e size (.slice A0 n c0) n xs)
    (A : Option Addr) (m c : Nat) (ys : List Value) (hx : a.eval x = .slice A m c) (hl : ys.length = m * size) (HR : RdV W A ys) (h1 : ∀ u ∈ ys, u.oneCell' = true)
    (hbytes : ((n + m) + (n + m) / 4 + 192) * bytes ≤ 281474976710656) (hbase : base ≤ W.heap.size)
    (h : ∀ A1 c1 w1, w1.ownsRow base e size (.slice A1 (n + m) c1) (n + m) (xs ++ ys) → Kpt (fun b => blkOf A0 b) W w1 → (∀ b, blkOf A1 b → blkOf A0 b ∨ W.heap.size ≤ b) → K (a.put o.dst (.slice A1 (n + m) c1)) w1) :
    if Region.wanted o (yielded ops a.tmps) = true then Oper.wp Try.prog o a W K Q else E := by
  have hw : Region.wanted o (yielded ops a.tmps) = true := by simp [Region.wanted, hgd]
  rw [if_pos hw]
  obtain ⟨i0, hi, hz0, rfl, rfl⟩ := info_parts hinfo
  obtain ⟨v1, w1, hr, h2, h3⟩ := run_app2 (P := Try.prog) (W := W) t o.type e i0 z ht hi hz0 hzs hsz base _ n xs HO A m c ys hl HR h1 hb0 hbytes hbase
  obtain ⟨A1, c1, rfl, _⟩ := own_slice h2
  unfold Oper.wp execOp
  simp only [ho, resolve, invoke, builtin, Sem.run_bind, Sem.run_pure, Result.andThen_ok, List.map_toArray, List.map_cons, List.map_nil, hs, hx, hr]
  have h4 : (A1.map (·.block) = A0.map (·.block) ∧ W.grownBy w1 (A0.map (·.block))) ∨ (A1.map (·.block) = some W.heap.size ∧ Below W.heap.size W w1) := by
    cases A1 <;> cases A0 <;> simp [Value.ownBlock] at h3 ⊢ <;> exact h3
  obtain ⟨k1, k2⟩ := app_kpt h4
  exact h A1 c1 w1 h2 k1 k2
/-- The cells of images. -/
def imC : List Int → List Value → List Value
  | n :: ns, v :: vs => .int .i64 n :: v :: imC ns vs
  | _, _ => []
theorem imC_length : ∀ (ns : List Int) (vs : List Value), ns.length = vs.length → (imC ns vs).length = ns.length * 2
  | [], [], _ => rfl
  | n :: ns, v :: vs, h => by
    have := imC_length ns vs (by simpa using h)
    simp only [imC, List.length_cons, this]
    omega
  | [], _ :: _, h => by simp at h
  | _ :: _, [], h => by simp at h
theorem imC_snoc : ∀ (ns : List Int) (vs : List Value) (n : Int) (v : Value), ns.length = vs.length → imC (ns ++ [n]) (vs ++ [v]) = imC ns vs ++ [.int .i64 n, v]
  | [], [], _, _, _ => rfl
  | a :: ns, b :: vs, n, v, h => by simp [imC, imC_snoc ns vs n v (by simpa using h)]
  | [], _ :: _, _, _, h => by simp at h
  | _ :: _, [], _, _, h => by simp at h
theorem imC_at : ∀ (ns : List Int) (vs : List Value) (i : Nat) (n : Int) (v : Value), ns[i]? = some n → vs[i]? = some v → (imC ns vs)[i * 2]? = some (.int .i64 n) ∧ (imC ns vs)[i * 2 + 1]? = some v
  | a :: ns, b :: vs, 0, n, v, h1, h2 => by simp at h1 h2; subst h1 h2; simp [imC]
  | a :: ns, b :: vs, i + 1, n, v, h1, h2 => by
    simp only [List.getElem?_cons_succ] at h1 h2
    have := imC_at ns vs i n v h1 h2
    rw [show (i + 1) * 2 = i * 2 + 1 + 1 by omega]
    simpa [imC] using this
  | [], _, _, _, _, h1, _ => by simp at h1
  | _ :: _, [], _, _, _, _, h2 => by simp at h2
theorem imC_one : ∀ (ns : List Int) (vs : List Value), (∀ u ∈ vs, u.oneCell' = true) → ∀ u ∈ imC ns vs, u.oneCell' = true
  | [], _, _, u, hu => by simp [imC] at hu
  | _ :: _, [], _, u, hu => by simp [imC] at hu
  | n :: ns, v :: vs, h, u, hu => by
    simp only [imC, List.mem_cons] at hu
    rcases hu with rfl | rfl | hu
    · rfl
    · exact h _ (by simp)
    · exact imC_one ns vs (fun x hx => h x (by simp [hx])) u hu
theorem imC_set : ∀ (ns : List Int) (vs : List Value) (i : Nat) (v : Value), (imC ns vs).set (i * 2 + 1) v = imC ns (vs.set i v) ∨ ns.length ≠ vs.length
  | [], [], _, _ => .inl rfl
  | a :: ns, b :: vs, 0, v => .inl (by simp [imC])
  | a :: ns, b :: vs, i + 1, v => by
    rcases imC_set ns vs i v with h | h
    · left
      rw [show (i + 1) * 2 + 1 = (i * 2 + 1) + 1 + 1 by omega]
      simp [imC, h]
    · exact .inr (by simpa using h)
  | [], _ :: _, _, _ => .inr (by simp)
  | _ :: _, [], _, _ => .inr (by simp)
theorem info_I : (Try.prog.info? 38).map (fun i => (i.zero, i.size, i.bytes)) = some (some (.agg #[.int .i64 0, .slice none 0 0]), 2, 32) := by kernel_rfl
/-- Images of the call's own: each with bytes in a block of its own. -/
structure OwIm (base : Nat) (w : World) (A : Option Addr) (c : Nat) (ns : List Int) (gs : List (Nat × Nat)) (ls : List (List UInt8)) : Prop where
  row : w.ownsRow base 38 2 (.slice A ns.length c) ns.length (imC ns (vals gs))
  blk : Blk base w gs ls
  len : ns.length = gs.length
theorem OwIm.below {base : Nat} {w w' : World} {A : Option Addr} {c : Nat} {ns : List Int} {gs : List (Nat × Nat)} {ls : List (List UInt8)} (h : OwIm base w A c ns gs ls) (k : Below w.heap.size w w') : OwIm base w' A c ns gs ls := ⟨own_below h.row k, h.blk.below k, h.len⟩
theorem OwIm.mono {base base' : Nat} {w : World} {A : Option Addr} {c : Nat} {ns : List Int} {gs : List (Nat × Nat)} {ls : List (List UInt8)} (h : OwIm base w A c ns gs ls) (hb : base' ≤ base) : OwIm base' w A c ns gs ls := ⟨own_mono h.row hb, h.blk.mono hb, h.len⟩
theorem own_img {w : World} {base n : Nat} {A : Option Addr} {c : Nat} {e : TypeId} {size : Nat} {xs : List Value} (h : w.ownsRow base e size (.slice A n c) n xs) {b : Nat} (hb : blkOf A b) : (Value.slice A n c).ownBlock = some b := by
  cases A with
  | none => simp [blkOf] at hb
  | some ad => simpa [Value.ownBlock, blkOf] using hb
theorem own_rowc {w : World} {base n size : Nat} {e : TypeId} {v : Value} {xs : List Value} (h : w.ownsRow base e size v n xs) {b : Nat} (hb : v.ownBlock = some b) : ∃ cs : Array Value, w.heap[b]? = some (.cells cs e (0, 0)) := by
  rcases h.2 with ⟨rfl, _⟩ | ⟨g', cap, cur, rfl, hbb, hg, r⟩
  · simp [Value.ownBlock] at hb
  · simp only [Value.ownBlock, Option.map_some, Option.some.injEq] at hb
    subst hb
    exact ⟨cur, hg⟩
theorem OwIm.kpt {S : Nat → Prop} {base : Nat} {w w' : World} {A : Option Addr} {c : Nat} {ns : List Int} {gs : List (Nat × Nat)} {ls : List (List UInt8)} (h : OwIm base w A c ns gs ls) (k : Kpt S w w') (h1 : ∀ b, blkOf A b → ¬ S b) (h2 : ∀ p ∈ gs, ¬ S p.1) : OwIm base w' A c ns gs ls :=
  ⟨ownsRow_kpt h.row k (fun b hb => h1 b (by cases A with | none => simp [Value.ownBlock] at hb | some ad => simpa [Value.ownBlock, blkOf] using hb)), h.blk.kpt k h2, h.len⟩
theorem OwIm.rd {base : Nat} {w : World} {A : Option Addr} {c : Nat} {ns : List Int} {gs : List (Nat × Nat)} {ls : List (List UInt8)} (h : OwIm base w A c ns gs ls) : RdG w A (ns.zip ls) := by
  intro i x hx
  have hi : i < (ns.zip ls).length := (List.getElem?_eq_some_iff.1 hx).1
  rw [List.length_zip] at hi
  have hlg := h.len
  have hll := h.blk.len
  have e1 : ns[i]? = some ns[i] := List.getElem?_eq_getElem (by omega)
  have e2 : ls[i]? = some ls[i] := List.getElem?_eq_getElem (by omega)
  have e3 : gs[i]? = some gs[i] := List.getElem?_eq_getElem (by omega)
  rw [List.getElem?_zip_eq_some] at hx
  rw [e1, e2] at hx
  obtain ⟨hx1, hx2⟩ := hx
  have hx1 := Option.some.inj hx1
  have hx2 := Option.some.inj hx2
  obtain ⟨ho, hl⟩ := h.blk.own i _ _ e3 e2
  obtain ⟨g, cc, hv, _, _⟩ := own_slice1 h.row (by omega)
  simp only [Value.slice.injEq, true_and] at hv
  obtain ⟨rfl, rfl⟩ := hv
  have ev : (vals gs)[i]? = some (.slice (some ⟨gs[i].1, 0, none⟩) 4096 gs[i].2) := by simp [vals, e3]
  obtain ⟨c1, c2⟩ := imC_at ns (vals gs) i _ _ e1 ev
  have hcap := ho.cap
  refine ⟨g, 0, some ⟨gs[i].1, 0, none⟩, gs[i].2, rfl, ?_, ?_, ?_, ?_, hcap.2⟩
  · rw [Nat.zero_add, World.ownsRow.cellAt h.row _ (by omega), c1, hx1]
  · rw [Nat.zero_add, World.ownsRow.cellAt h.row _ (by omega), c2, ← hx2, hl]
  · rw [← hx2]; exact ho.rd
  · rw [← hx2]; exact hcap.1
end Go.Proofs.Ytknhfaplddgnlaa
