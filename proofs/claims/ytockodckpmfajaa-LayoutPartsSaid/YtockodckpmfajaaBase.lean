/- Words and small laws that all walks of this claim use: bytes in memory, rows of the call's own, append. -/
import Derived.Test.YtockodckpmfajaaProg
import Derived.WalkKit
import Derived.Laws.CopyOwn
import Derived.Lib.AppendStr
import Derived.Deep.DeepAppendWide
namespace Go.Proofs.Ytockodckpmfajaa
open Go.RowKit

theorem hid {p : Prop} (h : p) : Hid p := h

/-! Values that are read: 'n' cells from an address on. -/
/-- The cells at the address hold these values. -/
def RdV (w : World) (a : Option Addr) (vs : List Value) : Prop :=
  vs ≠ [] → ∃ b off, a = some ⟨b, off, none⟩ ∧ ∀ (j : Nat) (u : Value), vs[j]? = some u → w.cell? ⟨b, off + j, none⟩ = some u
theorem RdV.nil (w : World) (a : Option Addr) : RdV w a [] := fun h => absurd rfl h
theorem cell_below {w w' : World} (h : Below w.heap.size w w') {p : Addr} {v : Value} (hc : w.cell? p = some v) : w'.cell? p = some v :=
  (h.cell (World.block_lt_of_cell? w p hc)).trans hc
theorem RdV.below {w w' : World} {a : Option Addr} {vs : List Value} (h : RdV w a vs) (hb : Below w.heap.size w w') : RdV w' a vs := by
  intro hn
  obtain ⟨b, off, rfl, hc⟩ := h hn
  exact ⟨b, off, rfl, fun j u hu => cell_below hb (hc j u hu)⟩
theorem RdV.alloc {w : World} {a : Option Addr} {vs : List Value} (h : RdV w a vs) (o : Obj) : RdV (w.alloc o) a vs := h.below ((Below.refl _ _).alloc (Nat.le_refl _) o)
theorem add_plain (g o j : Nat) : (⟨g, o, none⟩ : Addr).add j = ⟨g, o + j, none⟩ := by unfold Addr.add; split <;> simp_all
theorem RdV.take {w : World} {a : Option Addr} {vs : List Value} (h : RdV w a vs) (n : Nat) : RdV w a (vs.take n) := by
  intro hn
  obtain ⟨b, off, rfl, hc⟩ := h (fun e => hn (by simp [e]))
  refine ⟨b, off, rfl, fun j u hu => hc j u ?_⟩
  rw [List.getElem?_take] at hu
  split at hu
  · exact hu
  · cases hu
/-- 'xs[k:]': at k = cap the address stays as it was. -/
theorem RdV.drop {w : World} {a : Option Addr} {vs : List Value} (h : RdV w a vs) (k c size : Nat) (hk : vs.length ≤ c * size) :
    RdV w (if c = k then a else a.map (·.add (k * size))) (vs.drop (k * size)) := by
  intro hn
  have hlt : k * size < vs.length := by
    rcases Nat.lt_or_ge (k * size) vs.length with h | h
    · exact h
    · exact absurd (List.drop_of_length_le h) hn
  obtain ⟨b, off, rfl, hc⟩ := h (fun e => by simp [e] at hlt)
  rw [if_neg (by rintro rfl; omega)]
  refine ⟨b, off + k * size, by simp [add_plain], fun j u hu => ?_⟩
  rw [Nat.add_assoc]
  exact hc _ u (by rw [List.getElem?_drop] at hu; exact hu)
/-- A block that was just made. -/
theorem RdV.new (w : World) (cs : Array Value) (t : TypeId) : RdV (w.alloc (.cells cs t)) (some ⟨w.heap.size, 0, none⟩) cs.toList := by
  intro _
  refine ⟨_, _, rfl, fun j u hu => ?_⟩
  rw [cell_of_row _ _ _ cs t (0, 0) (heap_alloc_new w _)]
  simpa using hu
theorem RdV.one {w : World} {v : Value} {t : TypeId} : RdV (w.alloc (.cells #[v] t)) (some ⟨w.heap.size, 0, none⟩) [v] := RdV.new w #[v] t
/-- What is owned is read. -/
theorem RdV.own {w : World} {base : Nat} {e : TypeId} {size : Nat} {A : Option Addr} {n c : Nat} {xs : List Value} (h : w.ownsRow base e size (.slice A n c) n xs) : RdV w A xs := by
  intro hn
  rcases h.2 with ⟨hv, h0⟩ | ⟨g, cap, cur, hv, _⟩
  · have := h.1
    simp [h0] at this
    exact absurd this hn
  · simp only [Value.slice.injEq] at hv
    obtain ⟨rfl, _, _⟩ := hv
    refine ⟨g, 0, rfl, fun j u hu => ?_⟩
    have := h.cells (g := g) rfl j u hu
    rwa [add_plain] at this

/-! Rows of the call's own. -/
/-- What an owned value looks like. -/
theorem own_slice {w : World} {base n : Nat} {e : TypeId} {size : Nat} {v : Value} {xs : List Value} (h : w.ownsRow base e size v n xs) : ∃ A c, v = .slice A n c ∧ n ≤ c ∧ c ≤ maxLen := by
  rcases h.2 with ⟨rfl, rfl⟩ | ⟨g, cap, cur, rfl, _, _, h1, h2, _⟩
  · exact ⟨none, 0, rfl, Nat.le_refl _, Nat.zero_le _⟩
  · exact ⟨_, cap, rfl, h1, h2⟩
theorem own_cap {w : World} {base n c : Nat} {e : TypeId} {size : Nat} {A : Option Addr} {xs : List Value} (h : w.ownsRow base e size (.slice A n c) n xs) : n ≤ c ∧ c ≤ maxLen := by
  obtain ⟨A', c', h1, h2, h3⟩ := own_slice h
  simp only [Value.slice.injEq, true_and] at h1
  obtain ⟨_, rfl⟩ := h1
  exact ⟨h2, h3⟩
theorem own_base {w : World} {base : Nat} {e : TypeId} {size n : Nat} {v : Value} {xs : List Value} (h : w.ownsRow base e size v n xs) (k : Nat) (hk : v.ownBlock = some k) : base ≤ k := (h.lt k hk).1
theorem own_lt {w : World} {base : Nat} {e : TypeId} {size n : Nat} {v : Value} {xs : List Value} (h : w.ownsRow base e size v n xs) (k : Nat) (hk : v.ownBlock = some k) : k < w.heap.size := (h.lt k hk).2
theorem own_mono {w : World} {base base' : Nat} {e : TypeId} {size n : Nat} {v : Value} {xs : List Value} (h : w.ownsRow base e size v n xs) (hb : base' ≤ base) : w.ownsRow base' e size v n xs :=
  ⟨h.1, h.2.imp id fun ⟨g, cap, cur, hv, hg, r⟩ => ⟨g, cap, cur, hv, Nat.le_trans hb hg, r⟩⟩
theorem own_below {w w' : World} {base : Nat} {e : TypeId} {size n : Nat} {v : Value} {xs : List Value} (h : w.ownsRow base e size v n xs) (hb : Below w.heap.size w w') : w'.ownsRow base e size v n xs :=
  h.kept (row := none) ⟨hb.os, hb.tape, hb.output, hb.size, fun k hk _ => hb.block k hk⟩ (by cases v.ownBlock <;> simp)
/-- Behind a step that wrote one row of the call's own. -/
theorem below_grown {B : Nat} {w W W1 : World} {base : Nat} {e : TypeId} {size n : Nat} {v : Value} {xs : List Value} (h : Below B w W) (hg : W.grownBy W1 v.ownBlock) (ho : W.ownsRow base e size v n xs) (hB : B ≤ base) (hw : B ≤ w.heap.size) : Below B w W1 :=
  h.grown hg (Nat.le_trans hw h.size) (fun k hk => Nat.le_trans hB (own_base ho k hk))

/-- A row that was just made, holding xs, is the call's own. -/
theorem own_grown {W : World} {base : Nat} {e : TypeId} {size n cap : Nat} {z : Value} {xs : List Value} (hx : xs.length = n * size) (hz : z.cells.size = size) (hn : n ≤ cap) (hm : cap ≤ maxLen) (hb : base ≤ W.heap.size) :
    (W.drew.alloc (.cells (xs.toArray ++ Builtin.zeroCells z.cells (cap - n)) e)).ownsRow base e size (.slice (some ⟨W.heap.size, 0, none⟩) n cap) n xs := by
  refine ⟨hx, .inr ⟨W.heap.size, cap, _, rfl, hb, heap_alloc_new W.drew _, hn, hm, ?_, ?_⟩⟩
  · rw [Array.size_append, List.size_toArray, size_zeroCells, hz, hx, ← Nat.add_mul]
    congr 1
    omega
  · simp only [Array.toList_append, ← hx]
    exact List.take_left
theorem grown_new (W : World) (o : Obj) (row : Option Nat) : W.grownBy (W.drew.alloc o) row := ⟨rfl, rfl, rfl, by simp, fun k hk h => (World.grownBy_alloc W.drew o row).block k hk h⟩
/-- A row that was written behind its elements, within its room. -/
theorem own_room {W : World} {base : Nat} {e : TypeId} {size g n m cap : Nat} {cur : Array Value} {xs ys : List Value} (hg : W.heap[g]? = some (.cells cur e (0, 0))) (hb : base ≤ g) (hm : cap ≤ maxLen) (hcs : cur.size = cap * size)
    (hx : cur.toList.take (n * size) = xs) (hl : ys.length = m * size) (hroom : n + m ≤ cap) :
    (W.setRow g (cur.toList.take (n * size) ++ ys ++ cur.toList.drop (n * size + ys.length)).toArray).ownsRow base e size (.slice (some ⟨g, 0, none⟩) (n + m) cap) (n + m) (xs ++ ys) ∧
    W.grownBy (W.setRow g (cur.toList.take (n * size) ++ ys ++ cur.toList.drop (n * size + ys.length)).toArray) (some g) := by
  have hxl : xs.length = n * size := by
    rw [← hx, List.length_take, Array.length_toList, hcs]
    exact Nat.min_eq_left (Nat.mul_le_mul_right _ (by omega))
  have hlen : (xs ++ ys).length = (n + m) * size := by rw [List.length_append, hxl, hl, Nat.add_mul]
  have hfit : (n + m) * size ≤ cap * size := Nat.mul_le_mul_right _ hroom
  refine ⟨⟨hlen, .inr ⟨g, cap, _, rfl, hb, setRow_heap W g cur _ e _ hg, hroom, hm, ?_, ?_⟩⟩, ⟨rfl, rfl, rfl, by simp, fun k _ hk => setRow_other W g k _ (fun e => hk (by simp [e]))⟩⟩
  · simp only [List.size_toArray, List.length_append, List.length_take, List.length_drop, Array.length_toList, hcs, hl]
    rw [Nat.add_mul] at hfit
    omega
  · rw [hx, ← hlen]
    exact List.take_left
theorem run_app {P : Program} {W : World} (t ty e : TypeId) (i : TypeInfo) (z : Value) (ht : P.underlying t = some (.slice e)) (hi : P.info? e = some i) (hz : i.zero = some z) (hzs : z.cells.size = i.size) (hsz : 0 < i.size)
    (base : Nat) (v : Value) (n : Nat) (xs : List Value) (HO : W.ownsRow base e i.size v n xs)
    (A : Option Addr) (m c : Nat) (ys : List Value) (hl : ys.length = m * i.size) (HR : RdV W A ys) (h1 : ∀ u ∈ ys, u.oneCell' = true)
    (hb0 : 0 < i.bytes) (hbytes : ((n + m) + (n + m) / 4 + 192) * i.bytes ≤ 281474976710656) (hbase : base ≤ W.heap.size) :
    ∃ v1 w1, (Builtin.append_ #[t, t] ty #[v, .slice A m c]).run P W = .ok v1 w1 ∧ w1.ownsRow base e i.size v1 (n + m) (xs ++ ys) ∧ W.grownBy w1 v.ownBlock ∧ (v1.ownBlock = v.ownBlock ∨ v1.ownBlock = some W.heap.size) := by
  have h63 : n + m ≤ 281474976710656 := by
    have := Nat.le_mul_of_pos_right ((n + m) + (n + m) / 4 + 192) hb0
    omega
  have hmax : n + m ≤ maxLen := by simp only [maxLen]; omega
  by_cases hm : m = 0
  · subst hm
    obtain rfl : ys = [] := List.eq_nil_of_length_eq_zero (by simpa using hl)
    refine ⟨v, W, ?_, by simpa using HO, World.grownBy.refl W _, .inl rfl⟩
    have hld : ∀ ad, (loadCells ad 0).run P W = .ok #[] W := fun ad => by simpa using run_loadCells_list (P := P) W ad [] (fun j v hj => by simp at hj)
    rcases HO.2 with ⟨rfl, rfl⟩ | ⟨g, cap, cur, rfl, _, _, hnc, _⟩
    · cases A <;> simp [Builtin.append_, run_underlying ht, sizeOf, typeInfo, hi, Builtin.lenOf, Builtin.firstCells, hld]
    · cases A <;> simp [Builtin.append_, run_underlying ht, sizeOf, typeInfo, hi, Builtin.lenOf, Builtin.firstCells, hnc, storeCells, hld]
  · have hpos : 0 < m * i.size := Nat.mul_pos (by omega) hsz
    obtain ⟨b, off, rfl, hc⟩ := HR (fun e => by rw [e] at hl; simp at hl; omega)
    have hnews : ∀ j u, ys[j]? = some u → W.cell? ((⟨b, off, none⟩ : Addr).add j) = some u := fun j u hu => by rw [add_plain]; exact hc j u hu
    rcases HO.2 with ⟨rfl, rfl⟩ | ⟨g, cap, cur, rfl, hbg, hg, hnc, hcm, hcs, htake⟩
    · obtain rfl : xs = [] := List.eq_nil_of_length_eq_zero (by simpa using HO.1)
      have hr := run_append_nil (P := P) W t ty e i z ht hi hz ⟨b, off, none⟩ m c ys hl hnews (by omega) (by omega) (Nat.le_trans (Nat.mul_le_mul_right _ (by omega)) hbytes)
      refine ⟨_, _, hr, ?_, grown_new W _ _, .inr rfl⟩
      have := own_grown (W := W) (base := base) (e := e) (z := z) (n := m) hl hzs (grownCap_ge W m 0 e) (grownCap_le_maxLen W m 0 e (by omega)) hbase
      simpa using this
    · by_cases hroom : n + m ≤ cap
      · have hfit : n * i.size + ys.length ≤ cur.size := by rw [hl, hcs, ← Nat.add_mul]; exact Nat.mul_le_mul_right _ hroom
        have hr := run_append_room (P := P) W t ty e i ht hi g n cap cur hg ⟨b, off, none⟩ m c ys hl hnews h1 hroom hfit
        have ho := own_room hg hbg hcm hcs htake hl hroom
        exact ⟨_, _, hr, ho.1, ho.2, .inl rfl⟩
      · have holds : ∀ j u, xs[j]? = some u → W.cell? ((⟨g, 0, none⟩ : Addr).add j) = some u := HO.cells (g := g) rfl
        have hr := run_append_grow (P := P) W t ty e i z ht hi hz ⟨g, 0, none⟩ n cap xs HO.1 holds ⟨b, off, none⟩ m c ys hl hnews (by omega) (by omega) (growslice_fits_wide (by omega) hbytes)
        refine ⟨_, _, hr, ?_, grown_new W _ _, .inr rfl⟩
        have := own_grown (W := W) (base := base) (e := e) (z := z) (n := n + m) (xs := xs ++ ys) (by rw [List.length_append, HO.1, hl, Nat.add_mul]) hzs (grownCap_ge W (n + m) cap e) (grownCap_le_maxLen W (n + m) cap e hmax) hbase
        simpa using this

section
variable {P : Program} {ops : Array Oper} {rest : List Oper} {o : Oper} {a : Act} {Q : Exit → Act → World → Prop}
/-- 'append(s, xs...)': s a row of the call's own (nil let in), xs whatever is read (nil let in). -/
theorem app_own {W : World} (hgd : o.guard = none) (s x : Operand) (t e : TypeId) (z : Value) (size bytes : Nat)
    (ho : o.op = .call { callee := .builtin .append, args := #[s, x], argTypes := #[t, t] })
    (ht : P.underlying t = some (.slice e)) (hinfo : (P.info? e).map (fun i => (i.zero, i.size, i.bytes)) = some (some z, size, bytes)) (hzs : z.cells.size = size) (hsz : 0 < size) (hb0 : 0 < bytes)
    (base : Nat) (v : Value) (n : Nat) (xs : List Value) (hs : a.eval s = v) (HO : W.ownsRow base e size v n xs)
    (A : Option Addr) (m c : Nat) (ys : List Value) (hx : a.eval x = .slice A m c) (hl : ys.length = m * size) (HR : RdV W A ys) (h1 : ∀ u ∈ ys, u.oneCell' = true)
    (hbytes : ((n + m) + (n + m) / 4 + 192) * bytes ≤ 281474976710656) (w0 : World) (hB : Below base w0 W) (hbase : base ≤ W.heap.size)
    (h : ∀ A1 c1 w1, w1.ownsRow base e size (.slice A1 (n + m) c1) (n + m) (xs ++ ys) → Below base w0 w1 → W.grownBy w1 v.ownBlock →
      ((Value.slice A1 (n + m) c1).ownBlock = v.ownBlock ∨ (Value.slice A1 (n + m) c1).ownBlock = some W.heap.size) → wpList P ops Q rest (a.put o.dst (.slice A1 (n + m) c1)) w1) :
    wpList P ops Q (o :: rest) a W := by
  obtain ⟨i0, hi, hz0, rfl, rfl⟩ := info_parts hinfo
  obtain ⟨v1, w1, hr, hown, hg, hat⟩ := run_app (P := P) (W := W) t o.type e i0 z ht hi hz0 hzs hsz base v n xs HO A m c ys hl HR h1 hb0 hbytes hbase
  obtain ⟨A1, c1, rfl, _⟩ := own_slice hown
  refine wpList_plain hgd fun K hK => ?_
  unfold Oper.wp execOp
  simp only [ho, resolve, invoke, builtin, Sem.run_bind, Sem.run_pure, Result.andThen_ok, List.map_toArray, List.map_cons, List.map_nil, hs, hx, hr]
  exact hK _ _ (h A1 c1 w1 hown (hB.grown hg hbase (own_base HO)) hg hat)
end

/-! Bytes. -/
def B8 (b : UInt8) : Value := .int .u8 (b.toNat : Int)
def B8s (l : List UInt8) : List Value := l.map B8
theorem B8s_length (l : List UInt8) : (B8s l).length = l.length := by simp [B8s]
theorem B8s_append (l m : List UInt8) : B8s (l ++ m) = B8s l ++ B8s m := by simp [B8s]
theorem B8s_one (l : List UInt8) : ∀ u ∈ B8s l, u.oneCell' = true := by
  intro u hu
  simp only [B8s, List.mem_map] at hu
  obtain ⟨x, _, rfl⟩ := hu
  rfl
/-- The least byte of a number. -/
def byteOf (n : Nat) : UInt8 := UInt8.ofNat n
/-- The byte at a place. -/
def bat (l : List UInt8) (k : Nat) : UInt8 := l.getD k 0
theorem bat_lt (l : List UInt8) (k : Nat) : (bat l k).toNat < 256 := (bat l k).toNat_lt
/-- These bytes lie at the address. -/
def RdB (w : World) (a : Option Addr) (l : List UInt8) : Prop := RdV w a (B8s l)
theorem RdB.at_ {w : World} {a : Option Addr} {l : List UInt8} (h : RdB w a l) (hn : l ≠ []) :
    ∃ b off, a = some ⟨b, off, none⟩ ∧ ∀ j, j < l.length → w.cell? ⟨b, off + j, none⟩ = some (.int .u8 ((bat l j).toNat : Int)) := by
  obtain ⟨b, off, rfl, hc⟩ := h (fun e => hn (by simpa [B8s] using e))
  refine ⟨b, off, rfl, fun j hj => hc j _ ?_⟩
  simp [B8s, bat, List.getElem?_eq_getElem hj, B8]
theorem RdB.nil (w : World) (a : Option Addr) : RdB w a [] := RdV.nil w a
/-- Bytes that were just written out. -/
theorem RdB.lit (w : World) (cs : Array Value) (t : TypeId) (l : List UInt8) (h : cs.toList = B8s l) {g : Nat} (hg : g = w.heap.size) : RdB (w.alloc (.cells cs t)) (some ⟨g, 0, none⟩) l := by
  subst hg
  have := RdV.new w cs t
  rw [h] at this
  exact this
theorem RdB.pre {w : World} {a : Option Addr} {X Y : List UInt8} (h : RdB w a (X ++ Y)) : RdB w a X := by
  have := RdV.take h X.length
  rwa [B8s_append, List.take_left' (B8s_length X)] at this
/-- A part of what lies there. -/
theorem RdB.part {w : World} {b off : Nat} {l : List UInt8} (h : RdB w (some ⟨b, off, none⟩) l) (lo n : Nat) : RdB w (some ⟨b, off + lo, none⟩) ((l.drop lo).take n) := by
  intro hn
  have hne : l ≠ [] := by rintro rfl; simp [B8s] at hn
  obtain ⟨b', off', h', hc⟩ := h (fun e => hne (by simpa [B8s] using e))
  simp only [Option.some.injEq, Addr.mk.injEq, and_true] at h'
  obtain ⟨rfl, rfl⟩ := h'
  refine ⟨b, off + lo, rfl, fun j u hu => ?_⟩
  rw [Nat.add_assoc]
  refine hc _ u ?_
  simp only [B8s, List.map_take, List.map_drop, List.getElem?_take, List.getElem?_drop] at hu
  split at hu
  · simpa [B8s] using hu
  · cases hu
theorem RdB.below {w w' : World} {a : Option Addr} {l : List UInt8} (h : RdB w a l) (hb : Below w.heap.size w w') : RdB w' a l := RdV.below h hb
theorem RdB.alloc {w : World} {a : Option Addr} {l : List UInt8} (h : RdB w a l) (o : Obj) : RdB (w.alloc o) a l := RdV.alloc h o
/-- A row of bytes of the call's own. -/
def OwnB (base : Nat) (w : World) (a : Option Addr) (c : Nat) (l : List UInt8) : Prop := w.ownsRow base 5 1 (.slice a l.length c) l.length (B8s l)
theorem OwnB.rd {base : Nat} {w : World} {a : Option Addr} {c : Nat} {l : List UInt8} (h : OwnB base w a c l) : RdB w a l := RdV.own h
theorem OwnB.below {base : Nat} {w w' : World} {a : Option Addr} {c : Nat} {l : List UInt8} (h : OwnB base w a c l) (hb : Below w.heap.size w w') : OwnB base w' a c l := own_below h hb
theorem OwnB.cap {base : Nat} {w : World} {a : Option Addr} {c : Nat} {l : List UInt8} (h : OwnB base w a c l) : l.length ≤ c ∧ c ≤ 9223372036854775807 := by
  have := own_cap h
  simpa [maxLen] using this
theorem OwnB.mono {base base' : Nat} {w : World} {a : Option Addr} {c : Nat} {l : List UInt8} (h : OwnB base w a c l) (hb : base' ≤ base) : OwnB base' w a c l := own_mono h hb
theorem OwnB.nil (base : Nat) (w : World) : OwnB base w none 0 [] := World.ownsRow_nil w base 5 1

theorem info_u8 : (Try.prog.info? 5).map (fun i => (i.zero, i.size, i.bytes)) = some (some (.int .u8 0), 1, 1) := by kernel_rfl
section
variable {ops : Array Oper} {rest : List Oper} {o : Oper} {a : Act} {Q : Exit → Act → World → Prop}
end

/-- A row of bytes of the call's own, byte by byte: read, and written. -/
theorem OwnB.at_ {base : Nat} {w : World} {a : Option Addr} {c : Nat} {l : List UInt8} (h : OwnB base w a c l) (hn : l ≠ []) :
    ∃ g, a = some ⟨g, 0, none⟩ ∧ base ≤ g ∧ (∀ j, j < l.length → w.cell? ⟨g, j, none⟩ = some (.int .u8 ((bat l j).toNat : Int))) ∧ ∀ j, w.frozen? ⟨g, j, none⟩ = false := by
  have h' := h
  rcases h.2 with ⟨_, h0⟩ | ⟨g, cap, cur, hv, hb, _⟩
  · exact absurd (List.eq_nil_of_length_eq_zero h0) hn
  · simp only [Value.slice.injEq, true_and] at hv
    obtain ⟨rfl, rfl⟩ := hv
    refine ⟨g, rfl, hb, fun j hj => ?_, fun j => World.ownsRow.frozenAt h' j⟩
    rw [World.ownsRow.cellAt h' j (by omega)]
    simp [B8s, bat, List.getElem?_eq_getElem hj, B8]
theorem OwnB.store {base : Nat} {w : World} {g c : Nat} {l : List UInt8} (h : OwnB base w (some ⟨g, 0, none⟩) c l) (j : Nat) (x : UInt8) :
    OwnB base (w.setCell ⟨g, j, none⟩ (.int .u8 (x.toNat : Int))) (some ⟨g, 0, none⟩) c (l.set j x) := by
  have := (World.ownsRow.stored h j (B8 x)).1
  unfold OwnB
  rw [List.length_set]
  have e : B8s (l.set j x) = (B8s l).set j (B8 x) := by simp [B8s, List.map_set]
  rw [e]
  exact this
theorem bat_set (l : List UInt8) (j : Nat) (x : UInt8) (k : Nat) (hj : j < l.length) : bat (l.set j x) k = if j = k then x else bat l k := by
  by_cases h : j = k
  · subst h; simp [bat, hj]
  · simp [bat, h]

/-! make. -/
/-- So many noughts. -/
def zeros (n : Nat) : List UInt8 := List.replicate n 0
theorem zeros_length (n : Nat) : (zeros n).length = n := by simp [zeros]
theorem made_zeros (n : Nat) : (madeCells #[.int .u8 0] n).toList = B8s (zeros n) := by
  rw [toList_madeCells_one, zeros, B8s, List.map_replicate]
  rfl
theorem OwnB.made {base : Nat} (W : World) (n : Nat) (hb : base ≤ W.heap.size) (hn : n ≤ 281474976710656) : OwnB base (W.alloc (.cells (madeCells #[.int .u8 0] n) 5)) (some ⟨W.heap.size, 0, none⟩) n (zeros n) := by
  have h := World.ownsRow_lit (base := base) (e := 5) (size := 1) W (madeCells #[.int .u8 0] n) n hb (by simp only [maxLen]; omega) (by simp [size_madeCells])
  rw [made_zeros] at h
  unfold OwnB
  rw [zeros_length]
  exact h
theorem RdB.made (W : World) (n : Nat) {g : Nat} (hg : g = W.heap.size) : RdB (W.alloc (.cells (madeCells #[.int .u8 0] n) 5)) (some ⟨g, 0, none⟩) (zeros n) := RdB.lit W _ _ _ (made_zeros n) hg

/-! Texts. -/
/-- The text of these bytes. -/
def strB (l : List UInt8) : ByteArray := ⟨l.toArray⟩
theorem strB_size (l : List UInt8) : (strB l).size = l.length := by simp [strB, ByteArray.size]
theorem strB_inj {l m : List UInt8} : strB l = strB m ↔ l = m := by
  constructor
  · intro h
    have := congrArg (fun s : ByteArray => s.data.toList) h
    simpa [strB] using this
  · rintro rfl; rfl
theorem strB_toList (l : List UInt8) : (strB l).toList = l := ByteArray.toList_mk l
theorem strB_data (s : ByteArray) : strB s.data.toList = s := rfl
end Go.Proofs.Ytockodckpmfajaa
