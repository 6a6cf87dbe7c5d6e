/- Texts joined: Base, Frame, Low, Apart, Mark. -/
import Derived.Test.YtahlhdhljjpeoaaProg
import Derived.WalkKit
import Derived.Laws.CopyOwn
import Derived.Lib.AppendStr
import Derived.Deep.DeepAppendWide
import Derived.Test.YtahlhdhljjpeoaaRows
import Derived.ProofKit
import Derived.OpenShut
import Derived.ShutString
import Derived.ChangeOld
import Derived.SizedLaws
import Derived.ChangeSlices
import Derived.Deep.RegionHeld3
import Derived.Deep.QuietTactic
import Derived.BigQuiet
/- Words and small laws that all walks of this claim use: bytes in memory, rows of the call's own, append. -/
namespace Go.Proofs.Ytahlhdhljjpeoaa
open Go.RowKit

theorem hid {p : Prop} (h : p) : Hid p := h

/-! Values that are read: 'n' cells from an address on. -/
/-- The cells at the address hold these values. -/
def RdV (w : World) (a : Option Addr) (vs : List Value) : Prop :=
  vs ≠ [] → ∃ b off, a = some ⟨b, off, none⟩ ∧ ∀ (j : Nat) (u : Value), vs[j]? = some u → w.cell? ⟨b, off + j, none⟩ = some u
theorem RdV.nil (w : World) (a : Option Addr) : RdV w a [] := fun h => absurd rfl h
theorem cell_below {w w' : World} (h : Below w.heap.size w w') {p : Addr} {v : Value} (hc : w.cell? p = some v) : w'.cell? p = some v :=
  (h.cell (World.block_lt_of_cell? w p hc)).trans hc
theorem RdV.below {w w' : World} {a : Option Addr} {vs : List Value} (h : RdV w a vs) (hb : Below w.heap.size w w') : RdV w' a vs := by
  intro hn
  obtain ⟨b, off, rfl, hc⟩ := h hn
  exact ⟨b, off, rfl, fun j u hu => cell_below hb (hc j u hu)⟩
theorem RdV.alloc {w : World} {a : Option Addr} {vs : List Value} (h : RdV w a vs) (o : Obj) : RdV (w.alloc o) a vs := h.below ((Below.refl _ _).alloc (Nat.le_refl _) o)
theorem add_plain (g o j : Nat) : (⟨g, o, none⟩ : Addr).add j = ⟨g, o + j, none⟩ := by unfold Addr.add; split <;> simp_all
theorem RdV.take {w : World} {a : Option Addr} {vs : List Value} (h : RdV w a vs) (n : Nat) : RdV w a (vs.take n) := by
  intro hn
  obtain ⟨b, off, rfl, hc⟩ := h (fun e => hn (by simp [e]))
  refine ⟨b, off, rfl, fun j u hu => hc j u ?_⟩
  rw [List.getElem?_take] at hu
  split at hu
  · exact hu
  · cases hu
/-- 'xs[k:]': at k = cap the address stays as it was. -/
theorem RdV.drop {w : World} {a : Option Addr} {vs : List Value} (h : RdV w a vs) (k c size : Nat) (hk : vs.length ≤ c * size) :
    RdV w (if c = k then a else a.map (·.add (k * size))) (vs.drop (k * size)) := by
  intro hn
  have hlt : k * size < vs.length := by
    rcases Nat.lt_or_ge (k * size) vs.length with h | h
    · exact h
    · exact absurd (List.drop_of_length_le h) hn
  obtain ⟨b, off, rfl, hc⟩ := h (fun e => by simp [e] at hlt)
  rw [if_neg (by rintro rfl; omega)]
  refine ⟨b, off + k * size, by simp [add_plain], fun j u hu => ?_⟩
  rw [Nat.add_assoc]
  exact hc _ u (by rw [List.getElem?_drop] at hu; exact hu)
/-- A block that was just made. -/
theorem RdV.new (w : World) (cs : Array Value) (t : TypeId) : RdV (w.alloc (.cells cs t)) (some ⟨w.heap.size, 0, none⟩) cs.toList := by
  intro _
  refine ⟨_, _, rfl, fun j u hu => ?_⟩
  rw [cell_of_row _ _ _ cs t (0, 0) (heap_alloc_new w _)]
  simpa using hu
theorem RdV.one {w : World} {v : Value} {t : TypeId} : RdV (w.alloc (.cells #[v] t)) (some ⟨w.heap.size, 0, none⟩) [v] := RdV.new w #[v] t
/-- What is owned is read. -/
theorem RdV.own {w : World} {base : Nat} {e : TypeId} {size : Nat} {A : Option Addr} {n c : Nat} {xs : List Value} (h : w.ownsRow base e size (.slice A n c) n xs) : RdV w A xs := by
  intro hn
  rcases h.2 with ⟨hv, h0⟩ | ⟨g, cap, cur, hv, _⟩
  · have := h.1
    simp [h0] at this
    exact absurd this hn
  · simp only [Value.slice.injEq] at hv
    obtain ⟨rfl, _, _⟩ := hv
    refine ⟨g, 0, rfl, fun j u hu => ?_⟩
    have := h.cells (g := g) rfl j u hu
    rwa [add_plain] at this

/-! Rows of the call's own. -/
/-- What an owned value looks like. -/
theorem own_slice {w : World} {base n : Nat} {e : TypeId} {size : Nat} {v : Value} {xs : List Value} (h : w.ownsRow base e size v n xs) : ∃ A c, v = .slice A n c ∧ n ≤ c ∧ c ≤ maxLen := by
  rcases h.2 with ⟨rfl, rfl⟩ | ⟨g, cap, cur, rfl, _, _, h1, h2, _⟩
  · exact ⟨none, 0, rfl, Nat.le_refl _, Nat.zero_le _⟩
  · exact ⟨_, cap, rfl, h1, h2⟩
theorem own_cap {w : World} {base n c : Nat} {e : TypeId} {size : Nat} {A : Option Addr} {xs : List Value} (h : w.ownsRow base e size (.slice A n c) n xs) : n ≤ c ∧ c ≤ maxLen := by
  obtain ⟨A', c', h1, h2, h3⟩ := own_slice h
  simp only [Value.slice.injEq, true_and] at h1
  obtain ⟨_, rfl⟩ := h1
  exact ⟨h2, h3⟩
theorem own_base {w : World} {base : Nat} {e : TypeId} {size n : Nat} {v : Value} {xs : List Value} (h : w.ownsRow base e size v n xs) (k : Nat) (hk : v.ownBlock = some k) : base ≤ k := (h.lt k hk).1
theorem own_lt {w : World} {base : Nat} {e : TypeId} {size n : Nat} {v : Value} {xs : List Value} (h : w.ownsRow base e size v n xs) (k : Nat) (hk : v.ownBlock = some k) : k < w.heap.size := (h.lt k hk).2
theorem own_mono {w : World} {base base' : Nat} {e : TypeId} {size n : Nat} {v : Value} {xs : List Value} (h : w.ownsRow base e size v n xs) (hb : base' ≤ base) : w.ownsRow base' e size v n xs :=
  ⟨h.1, h.2.imp id fun ⟨g, cap, cur, hv, hg, r⟩ => ⟨g, cap, cur, hv, Nat.le_trans hb hg, r⟩⟩
theorem own_below {w w' : World} {base : Nat} {e : TypeId} {size n : Nat} {v : Value} {xs : List Value} (h : w.ownsRow base e size v n xs) (hb : Below w.heap.size w w') : w'.ownsRow base e size v n xs :=
  h.kept (row := none) ⟨hb.os, hb.tape, hb.output, hb.size, fun k hk _ => hb.block k hk⟩ (by cases v.ownBlock <;> simp)
/-- Behind a step that wrote one row of the call's own. -/
theorem below_grown {B : Nat} {w W W1 : World} {base : Nat} {e : TypeId} {size n : Nat} {v : Value} {xs : List Value} (h : Below B w W) (hg : W.grownBy W1 v.ownBlock) (ho : W.ownsRow base e size v n xs) (hB : B ≤ base) (hw : B ≤ w.heap.size) : Below B w W1 :=
  h.grown hg (Nat.le_trans hw h.size) (fun k hk => Nat.le_trans hB (own_base ho k hk))

/-- A row that was just made, holding xs, is the call's own. -/
theorem own_grown {W : World} {base : Nat} {e : TypeId} {size n cap : Nat} {z : Value} {xs : List Value} (hx : xs.length = n * size) (hz : z.cells.size = size) (hn : n ≤ cap) (hm : cap ≤ maxLen) (hb : base ≤ W.heap.size) :
    (W.drew.alloc (.cells (xs.toArray ++ Builtin.zeroCells z.cells (cap - n)) e)).ownsRow base e size (.slice (some ⟨W.heap.size, 0, none⟩) n cap) n xs := by
  refine ⟨hx, .inr ⟨W.heap.size, cap, _, rfl, hb, heap_alloc_new W.drew _, hn, hm, ?_, ?_⟩⟩
  · rw [Array.size_append, List.size_toArray, size_zeroCells, hz, hx, ← Nat.add_mul]
    congr 1
    omega
  · simp only [Array.toList_append, ← hx]
    exact List.take_left
theorem grown_new (W : World) (o : Obj) (row : Option Nat) : W.grownBy (W.drew.alloc o) row := ⟨rfl, rfl, rfl, by simp, fun k hk h => (World.grownBy_alloc W.drew o row).block k hk h⟩
/-- A row that was written behind its elements, within its room. -/
theorem own_room {W : World} {base : Nat} {e : TypeId} {size g n m cap : Nat} {cur : Array Value} {xs ys : List Value} (hg : W.heap[g]? = some (.cells cur e (0, 0))) (hb : base ≤ g) (hm : cap ≤ maxLen) (hcs : cur.size = cap * size)
    (hx : cur.toList.take (n * size) = xs) (hl : ys.length = m * size) (hroom : n + m ≤ cap) :
    (W.setRow g (cur.toList.take (n * size) ++ ys ++ cur.toList.drop (n * size + ys.length)).toArray).ownsRow base e size (.slice (some ⟨g, 0, none⟩) (n + m) cap) (n + m) (xs ++ ys) ∧
    W.grownBy (W.setRow g (cur.toList.take (n * size) ++ ys ++ cur.toList.drop (n * size + ys.length)).toArray) (some g) := by
  have hxl : xs.length = n * size := by
    rw [← hx, List.length_take, Array.length_toList, hcs]
    exact Nat.min_eq_left (Nat.mul_le_mul_right _ (by omega))
  have hlen : (xs ++ ys).length = (n + m) * size := by rw [List.length_append, hxl, hl, Nat.add_mul]
  have hfit : (n + m) * size ≤ cap * size := Nat.mul_le_mul_right _ hroom
  refine ⟨⟨hlen, .inr ⟨g, cap, _, rfl, hb, setRow_heap W g cur _ e _ hg, hroom, hm, ?_, ?_⟩⟩, ⟨rfl, rfl, rfl, by simp, fun k _ hk => setRow_other W g k _ (fun e => hk (by simp [e]))⟩⟩
  · simp only [List.size_toArray, List.length_append, List.length_take, List.length_drop, Array.length_toList, hcs, hl]
    rw [Nat.add_mul] at hfit
    omega
  · rw [hx, ← hlen]
    exact List.take_left
theorem run_app {P : Program} {W : World} (t ty e : TypeId) (i : TypeInfo) (z : Value) (ht : P.underlying t = some (.slice e)) (hi : P.info? e = some i) (hz : i.zero = some z) (hzs : z.cells.size = i.size) (hsz : 0 < i.size)
    (base : Nat) (v : Value) (n : Nat) (xs : List Value) (HO : W.ownsRow base e i.size v n xs)
    (A : Option Addr) (m c : Nat) (ys : List Value) (hl : ys.length = m * i.size) (HR : RdV W A ys) (h1 : ∀ u ∈ ys, u.oneCell' = true)
    (hb0 : 0 < i.bytes) (hbytes : ((n + m) + (n + m) / 4 + 192) * i.bytes ≤ 281474976710656) (hbase : base ≤ W.heap.size) :
    ∃ v1 w1, (Builtin.append_ #[t, t] ty #[v, .slice A m c]).run P W = .ok v1 w1 ∧ w1.ownsRow base e i.size v1 (n + m) (xs ++ ys) ∧ W.grownBy w1 v.ownBlock ∧ (v1.ownBlock = v.ownBlock ∨ v1.ownBlock = some W.heap.size) := by
  have h63 : n + m ≤ 281474976710656 := by
    have := Nat.le_mul_of_pos_right ((n + m) + (n + m) / 4 + 192) hb0
    omega
  have hmax : n + m ≤ maxLen := by simp only [maxLen]; omega
  by_cases hm : m = 0
  · subst hm
    obtain rfl : ys = [] := List.eq_nil_of_length_eq_zero (by simpa using hl)
    refine ⟨v, W, ?_, by simpa using HO, World.grownBy.refl W _, .inl rfl⟩
    have hld : ∀ ad, (loadCells ad 0).run P W = .ok #[] W := fun ad => by simpa using run_loadCells_list (P := P) W ad [] (fun j v hj => by simp at hj)
    rcases HO.2 with ⟨rfl, rfl⟩ | ⟨g, cap, cur, rfl, _, _, hnc, _⟩
    · cases A <;> simp [Builtin.append_, run_underlying ht, sizeOf, typeInfo, hi, Builtin.lenOf, Builtin.firstCells, hld]
    · cases A <;> simp [Builtin.append_, run_underlying ht, sizeOf, typeInfo, hi, Builtin.lenOf, Builtin.firstCells, hnc, storeCells, hld]
  · have hpos : 0 < m * i.size := Nat.mul_pos (by omega) hsz
    obtain ⟨b, off, rfl, hc⟩ := HR (fun e => by rw [e] at hl; simp at hl; omega)
    have hnews : ∀ j u, ys[j]? = some u → W.cell? ((⟨b, off, none⟩ : Addr).add j) = some u := fun j u hu => by rw [add_plain]; exact hc j u hu
    rcases HO.2 with ⟨rfl, rfl⟩ | ⟨g, cap, cur, rfl, hbg, hg, hnc, hcm, hcs, htake⟩
    · obtain rfl : xs = [] := List.eq_nil_of_length_eq_zero (by simpa using HO.1)
      have hr := run_append_nil (P := P) W t ty e i z ht hi hz ⟨b, off, none⟩ m c ys hl hnews (by omega) (by omega) (Nat.le_trans (Nat.mul_le_mul_right _ (by omega)) hbytes)
      refine ⟨_, _, hr, ?_, grown_new W _ _, .inr rfl⟩
      have := own_grown (W := W) (base := base) (e := e) (z := z) (n := m) hl hzs (grownCap_ge W m 0 e) (grownCap_le_maxLen W m 0 e (by omega)) hbase
      simpa using this
    · by_cases hroom : n + m ≤ cap
      · have hfit : n * i.size + ys.length ≤ cur.size := by rw [hl, hcs, ← Nat.add_mul]; exact Nat.mul_le_mul_right _ hroom
        have hr := run_append_room (P := P) W t ty e i ht hi g n cap cur hg ⟨b, off, none⟩ m c ys hl hnews h1 hroom hfit
        have ho := own_room hg hbg hcm hcs htake hl hroom
        exact ⟨_, _, hr, ho.1, ho.2, .inl rfl⟩
      · have holds : ∀ j u, xs[j]? = some u → W.cell? ((⟨g, 0, none⟩ : Addr).add j) = some u := HO.cells (g := g) rfl
        have hr := run_append_grow (P := P) W t ty e i z ht hi hz ⟨g, 0, none⟩ n cap xs HO.1 holds ⟨b, off, none⟩ m c ys hl hnews (by omega) (by omega) (growslice_fits_wide (by omega) hbytes)
        refine ⟨_, _, hr, ?_, grown_new W _ _, .inr rfl⟩
        have := own_grown (W := W) (base := base) (e := e) (z := z) (n := n + m) (xs := xs ++ ys) (by rw [List.length_append, HO.1, hl, Nat.add_mul]) hzs (grownCap_ge W (n + m) cap e) (grownCap_le_maxLen W (n + m) cap e hmax) hbase
        simpa using this

section
variable {P : Program} {ops : Array Oper} {rest : List Oper} {o : Oper} {a : Act} {Q : Exit → Act → World → Prop}
/-- 'append(s, xs...)': s a row of the call's own (nil let in), xs whatever is read (nil let in). -/
theorem app_own {W : World} (hgd : o.guard = none) (s x : Operand) (t e : TypeId) (z : Value) (size bytes : Nat)
    (ho : o.op = .call { callee := .builtin .append, args := #[s, x], argTypes := #[t, t] })
    (ht : P.underlying t = some (.slice e)) (hinfo : (P.info? e).map (fun i => (i.zero, i.size, i.bytes)) = some (some z, size, bytes)) (hzs : z.cells.size = size) (hsz : 0 < size) (hb0 : 0 < bytes)
    (base : Nat) (v : Value) (n : Nat) (xs : List Value) (hs : a.eval s = v) (HO : W.ownsRow base e size v n xs)
    (A : Option Addr) (m c : Nat) (ys : List Value) (hx : a.eval x = .slice A m c) (hl : ys.length = m * size) (HR : RdV W A ys) (h1 : ∀ u ∈ ys, u.oneCell' = true)
    (hbytes : ((n + m) + (n + m) / 4 + 192) * bytes ≤ 281474976710656) (w0 : World) (hB : Below base w0 W) (hbase : base ≤ W.heap.size)
    (h : ∀ A1 c1 w1, w1.ownsRow base e size (.slice A1 (n + m) c1) (n + m) (xs ++ ys) → Below base w0 w1 → W.grownBy w1 v.ownBlock →
      ((Value.slice A1 (n + m) c1).ownBlock = v.ownBlock ∨ (Value.slice A1 (n + m) c1).ownBlock = some W.heap.size) → wpList P ops Q rest (a.put o.dst (.slice A1 (n + m) c1)) w1) :
    wpList P ops Q (o :: rest) a W := by
  obtain ⟨i0, hi, hz0, rfl, rfl⟩ := info_parts hinfo
  obtain ⟨v1, w1, hr, hown, hg, hat⟩ := run_app (P := P) (W := W) t o.type e i0 z ht hi hz0 hzs hsz base v n xs HO A m c ys hl HR h1 hb0 hbytes hbase
  obtain ⟨A1, c1, rfl, _⟩ := own_slice hown
  refine wpList_plain hgd fun K hK => ?_
  unfold Oper.wp execOp
  simp only [ho, resolve, invoke, builtin, Sem.run_bind, Sem.run_pure, Result.andThen_ok, List.map_toArray, List.map_cons, List.map_nil, hs, hx, hr]
  exact hK _ _ (h A1 c1 w1 hown (hB.grown hg hbase (own_base HO)) hg hat)
end

/-! Bytes. -/
def B8 (b : UInt8) : Value := .int .u8 (b.toNat : Int)
def B8s (l : List UInt8) : List Value := l.map B8
theorem B8s_length (l : List UInt8) : (B8s l).length = l.length := by simp [B8s]
theorem B8s_append (l m : List UInt8) : B8s (l ++ m) = B8s l ++ B8s m := by simp [B8s]
theorem B8s_one (l : List UInt8) : ∀ u ∈ B8s l, u.oneCell' = true := by
  intro u hu
  simp only [B8s, List.mem_map] at hu
  obtain ⟨x, _, rfl⟩ := hu
  rfl
/-- The least byte of a number. -/
def byteOf (n : Nat) : UInt8 := UInt8.ofNat n
/-- The byte at a place. -/
def bat (l : List UInt8) (k : Nat) : UInt8 := l.getD k 0
theorem bat_lt (l : List UInt8) (k : Nat) : (bat l k).toNat < 256 := (bat l k).toNat_lt
/-- These bytes lie at the address. -/
def RdB (w : World) (a : Option Addr) (l : List UInt8) : Prop := RdV w a (B8s l)
theorem RdB.at_ {w : World} {a : Option Addr} {l : List UInt8} (h : RdB w a l) (hn : l ≠ []) :
    ∃ b off, a = some ⟨b, off, none⟩ ∧ ∀ j, j < l.length → w.cell? ⟨b, off + j, none⟩ = some (.int .u8 ((bat l j).toNat : Int)) := by
  obtain ⟨b, off, rfl, hc⟩ := h (fun e => hn (by simpa [B8s] using e))
  refine ⟨b, off, rfl, fun j hj => hc j _ ?_⟩
  simp [B8s, bat, List.getElem?_eq_getElem hj, B8]
theorem RdB.nil (w : World) (a : Option Addr) : RdB w a [] := RdV.nil w a
/-- Bytes that were just written out. -/
theorem RdB.lit (w : World) (cs : Array Value) (t : TypeId) (l : List UInt8) (h : cs.toList = B8s l) {g : Nat} (hg : g = w.heap.size) : RdB (w.alloc (.cells cs t)) (some ⟨g, 0, none⟩) l := by
  subst hg
  have := RdV.new w cs t
  rw [h] at this
  exact this
theorem RdB.pre {w : World} {a : Option Addr} {X Y : List UInt8} (h : RdB w a (X ++ Y)) : RdB w a X := by
  have := RdV.take h X.length
  rwa [B8s_append, List.take_left' (B8s_length X)] at this
/-- A part of what lies there. -/
theorem RdB.part {w : World} {b off : Nat} {l : List UInt8} (h : RdB w (some ⟨b, off, none⟩) l) (lo n : Nat) : RdB w (some ⟨b, off + lo, none⟩) ((l.drop lo).take n) := by
  intro hn
  have hne : l ≠ [] := by rintro rfl; simp [B8s] at hn
  obtain ⟨b', off', h', hc⟩ := h (fun e => hne (by simpa [B8s] using e))
  simp only [Option.some.injEq, Addr.mk.injEq, and_true] at h'
  obtain ⟨rfl, rfl⟩ := h'
  refine ⟨b, off + lo, rfl, fun j u hu => ?_⟩
  rw [Nat.add_assoc]
  refine hc _ u ?_
  simp only [B8s, List.map_take, List.map_drop, List.getElem?_take, List.getElem?_drop] at hu
  split at hu
  · simpa [B8s] using hu
  · cases hu
theorem RdB.below {w w' : World} {a : Option Addr} {l : List UInt8} (h : RdB w a l) (hb : Below w.heap.size w w') : RdB w' a l := RdV.below h hb
theorem RdB.alloc {w : World} {a : Option Addr} {l : List UInt8} (h : RdB w a l) (o : Obj) : RdB (w.alloc o) a l := RdV.alloc h o
/-- A row of bytes of the call's own. -/
def OwnB (base : Nat) (w : World) (a : Option Addr) (c : Nat) (l : List UInt8) : Prop := w.ownsRow base 5 1 (.slice a l.length c) l.length (B8s l)
theorem OwnB.rd {base : Nat} {w : World} {a : Option Addr} {c : Nat} {l : List UInt8} (h : OwnB base w a c l) : RdB w a l := RdV.own h
theorem OwnB.below {base : Nat} {w w' : World} {a : Option Addr} {c : Nat} {l : List UInt8} (h : OwnB base w a c l) (hb : Below w.heap.size w w') : OwnB base w' a c l := own_below h hb
theorem OwnB.cap {base : Nat} {w : World} {a : Option Addr} {c : Nat} {l : List UInt8} (h : OwnB base w a c l) : l.length ≤ c ∧ c ≤ 9223372036854775807 := by
  have := own_cap h
  simpa [maxLen] using this
theorem OwnB.mono {base base' : Nat} {w : World} {a : Option Addr} {c : Nat} {l : List UInt8} (h : OwnB base w a c l) (hb : base' ≤ base) : OwnB base' w a c l := own_mono h hb
theorem OwnB.nil (base : Nat) (w : World) : OwnB base w none 0 [] := World.ownsRow_nil w base 5 1

theorem info_u8 : (Try.prog.info? 5).map (fun i => (i.zero, i.size, i.bytes)) = some (some (.int .u8 0), 1, 1) := by kernel_rfl
section
variable {ops : Array Oper} {rest : List Oper} {o : Oper} {a : Act} {Q : Exit → Act → World → Prop}
/-- append on bytes. -/
theorem app_bytes {W : World} (hgd : o.guard = none) (s x : Operand)
    (ho : o.op = .call { callee := .builtin .append, args := #[s, x], argTypes := #[61, 61] })
    (base : Nat) (A0 : Option Addr) (c0 n0 : Nat) (l : List UInt8) (hn0 : n0 = l.length) (hs : a.eval s = .slice A0 n0 c0) (HO : OwnB base W A0 c0 l)
    (A : Option Addr) (m c : Nat) (r : List UInt8) (hx : a.eval x = .slice A m c) (hl : m = r.length) (HR : RdB W A r)
    (n1 : Nat) (hn1 : n1 = l.length + r.length) (hbytes : l.length + r.length ≤ 200000000000000) (w0 : World) (hB : Below base w0 W) (hbase : base ≤ W.heap.size)
    (h : ∀ A1 c1 w1, OwnB base w1 A1 c1 (l ++ r) → Below base w0 w1 → W.grownBy w1 (Value.slice A0 l.length c0).ownBlock →
      ((Value.slice A1 n1 c1).ownBlock = (Value.slice A0 l.length c0).ownBlock ∨ (Value.slice A1 n1 c1).ownBlock = some W.heap.size) →
      wpList Try.prog ops Q rest (a.put o.dst (.slice A1 n1 c1)) w1) :
    wpList Try.prog ops Q (o :: rest) a W := by
  subst hl hn0 hn1
  refine app_own hgd s x 61 5 (.int .u8 0) 1 1 ho Try.underlying61 info_u8 rfl (by decide) (by decide) base _ l.length (B8s l) hs HO A r.length c (B8s r) hx (by simp [B8s]) HR (B8s_one r) (by omega) w0 hB hbase ?_
  intro A1 c1 w1 h1 hb h2 h3
  refine h A1 c1 w1 ?_ hb h2 h3
  unfold OwnB
  rw [List.length_append, B8s_append]
  exact h1
/-- copy into a row that is known whole. -/
theorem copy_bytes {W : World} (hgd : o.guard = none) (d s : Operand)
    (ho : o.op = .call { callee := .builtin .copy, args := #[d, s], argTypes := #[61, 61] })
    (g off dLen dCap : Nat) (hd : a.eval d = .slice (some ⟨g, off, none⟩) dLen dCap) (A : Option Addr) (m c : Nat) (r : List UInt8) (hs : a.eval s = .slice A m c) (hm : m = r.length) (HR : RdB W A r)
    (cur : List Value) (hg : W.heap[g]? = some (.cells cur.toArray 5 (0, 0))) (hfit : off + dLen ≤ cur.length)
    (B : Nat) (w0 : World) (hb : Below B w0 W) (hBg : B ≤ g)
    (h : ∀ w', Hid (w'.heap[g]? = some (.cells (splice cur off (B8s (r.take dLen))).toArray 5 (0, 0))) → Below B w0 w' → w'.heap.size = W.heap.size → W.grownBy w' (some g) → wpList Try.prog ops Q rest (a.put o.dst (goInt ((min r.length dLen : Nat) : Int))) w') :
    wpList Try.prog ops Q (o :: rest) a W := by
  subst hm
  obtain ⟨i0, hi, hz0, hz1, hz2⟩ := info_parts info_u8
  have hsz : (Try.prog.info? 5).map (·.size) = some 1 := by rw [hi]; simp [hz1]
  have hlen : (B8s (r.take dLen)).length = min r.length dLen := by simp [B8s, Nat.min_comm]
  by_cases h0 : (B8s (r.take dLen)).length = 0
  · have e0 : B8s (r.take dLen) = [] := List.eq_nil_of_length_eq_zero h0
    refine wpList_copy_nothing hgd d s _ _ ho 5 Try.underlying61 hsz _ A dLen dCap r.length c hd hs (by rw [hlen] at h0; exact h0) ?_
    rw [show (0 : Int) = ((min r.length dLen : Nat) : Int) by omega]
    refine h W ?_ hb rfl (World.grownBy.refl W _)
    rw [e0]
    show _ = _
    simpa [splice] using hg
  · have hr : B8s r ≠ [] := by intro e; simp [B8s] at e; subst e; simp [B8s] at h0
    obtain ⟨b, o2, rfl, hc⟩ := HR hr
    rw [← hlen] at h
    refine wpList_copy_own hgd d s _ _ ho 5 Try.underlying61 hsz g off dLen dCap ⟨b, o2, none⟩ r.length c hd hs cur.toArray 5 hg (B8s (r.take dLen)) hlen
      (fun j v hv => by rw [add_plain]; refine hc j v ?_; simp only [B8s, List.map_take, List.getElem?_take] at hv; split at hv; exact hv; cases hv) (by simp; omega) (B8s_one _) ?_
    refine h _ ?_ (below_setRow hb hBg _) (by simp) ⟨rfl, rfl, rfl, by simp, fun k _ hk => setRow_other _ g k _ (fun e => hk (by simp [e]))⟩
    show _ = _
    simpa [splice] using setRow_heap W g _ _ _ _ hg
end

/-- A row of bytes of the call's own, byte by byte: read, and written. -/
theorem OwnB.at_ {base : Nat} {w : World} {a : Option Addr} {c : Nat} {l : List UInt8} (h : OwnB base w a c l) (hn : l ≠ []) :
    ∃ g, a = some ⟨g, 0, none⟩ ∧ base ≤ g ∧ (∀ j, j < l.length → w.cell? ⟨g, j, none⟩ = some (.int .u8 ((bat l j).toNat : Int))) ∧ ∀ j, w.frozen? ⟨g, j, none⟩ = false := by
  have h' := h
  rcases h.2 with ⟨_, h0⟩ | ⟨g, cap, cur, hv, hb, _⟩
  · exact absurd (List.eq_nil_of_length_eq_zero h0) hn
  · simp only [Value.slice.injEq, true_and] at hv
    obtain ⟨rfl, rfl⟩ := hv
    refine ⟨g, rfl, hb, fun j hj => ?_, fun j => World.ownsRow.frozenAt h' j⟩
    rw [World.ownsRow.cellAt h' j (by omega)]
    simp [B8s, bat, List.getElem?_eq_getElem hj, B8]
theorem OwnB.store {base : Nat} {w : World} {g c : Nat} {l : List UInt8} (h : OwnB base w (some ⟨g, 0, none⟩) c l) (j : Nat) (x : UInt8) :
    OwnB base (w.setCell ⟨g, j, none⟩ (.int .u8 (x.toNat : Int))) (some ⟨g, 0, none⟩) c (l.set j x) := by
  have := (World.ownsRow.stored h j (B8 x)).1
  unfold OwnB
  rw [List.length_set]
  have e : B8s (l.set j x) = (B8s l).set j (B8 x) := by simp [B8s, List.map_set]
  rw [e]
  exact this
theorem bat_set (l : List UInt8) (j : Nat) (x : UInt8) (k : Nat) (hj : j < l.length) : bat (l.set j x) k = if j = k then x else bat l k := by
  by_cases h : j = k
  · subst h; simp [bat, hj]
  · simp [bat, h]

/-! make. -/
/-- So many noughts. -/
def zeros (n : Nat) : List UInt8 := List.replicate n 0
theorem zeros_length (n : Nat) : (zeros n).length = n := by simp [zeros]
theorem made_zeros (n : Nat) : (madeCells #[.int .u8 0] n).toList = B8s (zeros n) := by
  rw [toList_madeCells_one, zeros, B8s, List.map_replicate]
  rfl
theorem run_mkB (n : Nat) (x y : Int) (hx : x = n) (hy : y = n) (hn : n ≤ 281474976710656) (W : World) : (Instr.makeSlice 61 (.int .i64 x) (.int .i64 y)).run Try.prog W = .ok (.slice (some ⟨W.heap.size, 0, none⟩) n n) (W.alloc (.cells (madeCells #[.int .u8 0] n) 5)) := by
  subst hx hy
  obtain ⟨i0, hi, hz0, hz1, hz2⟩ := info_parts info_u8
  have := run_make (P := Try.prog) W 61 5 i0 (.int .u8 0) Try.underlying61 hi hz0 .i64 .i64 (n : Int) (n : Int) (by omega) (by omega) (by rw [hz2]; omega) (by omega)
  rw [this, hz1]
  simp only [Int.toNat_natCast, Nat.mul_one]
  rfl
theorem OwnB.made {base : Nat} (W : World) (n : Nat) (hb : base ≤ W.heap.size) (hn : n ≤ 281474976710656) : OwnB base (W.alloc (.cells (madeCells #[.int .u8 0] n) 5)) (some ⟨W.heap.size, 0, none⟩) n (zeros n) := by
  have h := World.ownsRow_lit (base := base) (e := 5) (size := 1) W (madeCells #[.int .u8 0] n) n hb (by simp only [maxLen]; omega) (by simp [size_madeCells])
  rw [made_zeros] at h
  unfold OwnB
  rw [zeros_length]
  exact h
theorem RdB.made (W : World) (n : Nat) {g : Nat} (hg : g = W.heap.size) : RdB (W.alloc (.cells (madeCells #[.int .u8 0] n) 5)) (some ⟨g, 0, none⟩) (zeros n) := RdB.lit W _ _ _ (made_zeros n) hg

/-! Texts. -/
/-- The text of these bytes. -/
def strB (l : List UInt8) : ByteArray := ⟨l.toArray⟩
theorem strB_size (l : List UInt8) : (strB l).size = l.length := by simp [strB, ByteArray.size]
theorem strB_inj {l m : List UInt8} : strB l = strB m ↔ l = m := by
  constructor
  · intro h
    have := congrArg (fun s : ByteArray => s.data.toList) h
    simpa [strB] using this
  · rintro rfl; rfl
theorem strB_toList (l : List UInt8) : (strB l).toList = l := ByteArray.toList_mk l
theorem strB_data (s : ByteArray) : strB s.data.toList = s := rfl
theorem run_strB {w : World} {a : Option Addr} {l : List UInt8} (c : Nat) (h : RdB w a l) : (convert 61 9 (.slice a l.length c)).run Try.prog w = .ok (.string (strB l)) w := by
  cases a with
  | none =>
    have hn : l = [] := by
      by_cases hn : l = []
      · exact hn
      · obtain ⟨b, off, h', _⟩ := RdB.at_ h hn
        cases h'
    subst hn
    exact run_convert_bytes_nil w 61 5 Try.underlying61 Try.underlying5 0 c 9 Try.underlying9
  | some ad =>
    have hl : (loadCells ad l.length).run Try.prog w = .ok ((l.map fun x => (x.toNat : Int)).map (Value.int .u8)).toArray w := by
      have := run_loadCells_list (P := Try.prog) w ad (B8s l) (fun j v hj => by
        obtain ⟨b, off, h', hc⟩ := h (fun e => by rw [e] at hj; simp at hj)
        obtain rfl := Option.some.inj h'
        rw [add_plain]; exact hc j v hj)
      simpa [B8s, List.map_map, Function.comp_def, show (fun x : UInt8 => Value.int .u8 (x.toNat : Int)) = B8 from rfl] using this
    rw [run_convert_bytes_string w _ _ _ _ _ _ Try.underlying61 Try.underlying5 Try.underlying9, run_bytesToString w ad l.length c _ hl, foldl_push_bytes]
    have h1 : ((fun n : Int => UInt8.ofNat n.toNat) ∘ fun x : UInt8 => (x.toNat : Int)) = id := by funext x; simp
    simp [strB, h1]
theorem run_app_text {W : World} (ty : TypeId) (base : Nat) (v : Value) (n : Nat) (xs : List Value) (HO : W.ownsRow base 5 1 v n xs) (t : ByteArray)
    (hbytes : n + t.size ≤ 200000000000000) (hbase : base ≤ W.heap.size) :
    ∃ v1 w1, (Builtin.append_ #[61, 9] ty #[v, .string t]).run Try.prog W = .ok v1 w1 ∧ w1.ownsRow base 5 1 v1 (n + t.size) (xs ++ Lib.strCells t) ∧ W.grownBy w1 v.ownBlock ∧ (v1.ownBlock = v.ownBlock ∨ v1.ownBlock = some W.heap.size) := by
  obtain ⟨i0, hi, hz0, hz1, hz2⟩ := info_parts info_u8
  have hl : (Lib.strCells t).length = t.size * 1 := by rw [Lib.strCells_length, Nat.mul_one]
  rcases HO.2 with ⟨rfl, rfl⟩ | ⟨g, cap, cur, rfl, hbg, hg, hnc, hcm, hcs, htake⟩
  · obtain rfl : xs = [] := List.eq_nil_of_length_eq_zero (by simpa using HO.1)
    by_cases h0 : t.size = 0
    · have hs0 : Lib.strCells t = [] := List.eq_nil_of_length_eq_zero (by rw [Lib.strCells_length]; exact h0)
      refine ⟨.slice none 0 0, W, ?_, by rw [hs0, h0]; exact HO, World.grownBy.refl W _, .inl rfl⟩
      have hf := Lib.run_firstCells_string (P := Try.prog) W i0.size t
      rw [h0] at hf
      simp [Builtin.append_, run_underlying Try.underlying61, run_underlying Try.underlying9, sizeOf, typeInfo, hi, Builtin.lenOf, h0, hf]
    · have hn : ¬ (t.size ≤ 0) := by omega
      have h63' : ¬ (9223372036854775807 < (t.size : Int)) := by omega
      have h48' : ¬ (281474976710656 < Builtin.nextslicecap t.size 0 * i0.bytes) := by rw [nextslicecap_zero (by omega), hz2]; omega
      have hr : (Builtin.append_ #[61, 9] ty #[.slice none 0 0, .string t]).run Try.prog W = .ok (.slice (some ⟨W.heap.size, 0, none⟩) t.size (grownCap W t.size 0 5))
          (W.drew.alloc (.cells ((Lib.strCells t).toArray ++ Builtin.zeroCells (Value.int .u8 0).cells (grownCap W t.size 0 5 - t.size)) 5)) := by
        simp [Builtin.append_, run_underlying Try.underlying61, run_underlying Try.underlying9, sizeOf, typeInfo, zeroValue, hi, hz0, Builtin.lenOf, h0, h63', h48', Question.forced, newRow, grownCap, Builtin.firstCells]
        have hx : (Array.map (fun b : UInt8 => Value.int .u8 (b.toNat : Int)) t.data).extract 0 t.size = (Lib.strCells t).toArray := by
          have e : t.size = (Array.map (fun b : UInt8 => Value.int .u8 (b.toNat : Int)) t.data).size := by rw [Array.size_map]; rfl
          rw [e, Array.extract_size]
          apply Array.ext'
          simp [Lib.strCells]
        rw [hx]
      refine ⟨_, _, by simpa using hr, ?_, grown_new W _ _, .inr rfl⟩
      have := own_grown (W := W) (base := base) (e := 5) (size := 1) (z := .int .u8 0) (n := t.size) hl rfl (grownCap_ge W t.size 0 5) (grownCap_le_maxLen W t.size 0 5 (by simp only [maxLen]; omega)) hbase
      simpa using this
  · by_cases hroom : n + t.size ≤ cap
    · have hr := Lib.run_append_room_string (P := Try.prog) W 61 9 ty 5 i0 Try.underlying61 Try.underlying9 hi hz1 g n cap cur hg t hroom (by omega)
      have ho := own_room (m := t.size) hg hbg hcm hcs htake hl hroom
      simp only [Nat.mul_one, Lib.strCells_length] at ho
      exact ⟨_, _, hr, ho.1, ho.2, .inl rfl⟩
    · have holds : ∀ j u, xs[j]? = some u → W.cell? ((⟨g, 0, none⟩ : Addr).add j) = some u := HO.cells (g := g) rfl
      have hr := Lib.run_append_grow_string (P := Try.prog) W 61 9 ty 5 i0 (.int .u8 0) Try.underlying61 Try.underlying9 hi hz0 ⟨g, 0, none⟩ n cap xs (by rw [hz1]; exact HO.1) holds t (by omega) (by omega) (growslice_fits_wide (by omega) (by rw [hz2]; omega))
      refine ⟨_, _, hr, ?_, grown_new W _ _, .inr rfl⟩
      have := own_grown (W := W) (base := base) (e := 5) (size := 1) (z := .int .u8 0) (n := n + t.size) (xs := xs ++ Lib.strCells t) (by rw [List.length_append, HO.1, hl, Nat.add_mul]) rfl (grownCap_ge W (n + t.size) cap 5) (grownCap_le_maxLen W (n + t.size) cap 5 (by simp only [maxLen]; omega)) hbase
      simpa using this
/-- append of a text on bytes. -/
theorem app_text {ops : Array Oper} {rest : List Oper} {o : Oper} {a : Act} {Q : Exit → Act → World → Prop} {W : World} (hgd : o.guard = none) (s x : Operand)
    (ho : o.op = .call { callee := .builtin .append, args := #[s, x], argTypes := #[61, 9] })
    (base : Nat) (A0 : Option Addr) (c0 n0 : Nat) (l : List UInt8) (hn0 : n0 = l.length) (hs : a.eval s = .slice A0 n0 c0) (HO : OwnB base W A0 c0 l)
    (t : ByteArray) (hx : a.eval x = .string t)
    (n1 : Nat) (hn1 : n1 = l.length + t.size) (hbytes : l.length + t.size ≤ 200000000000000) (w0 : World) (hB : Below base w0 W) (hbase : base ≤ W.heap.size)
    (h : ∀ A1 c1 w1, OwnB base w1 A1 c1 (l ++ t.data.toList) → Below base w0 w1 → W.grownBy w1 (Value.slice A0 l.length c0).ownBlock → wpList Try.prog ops Q rest (a.put o.dst (.slice A1 n1 c1)) w1) :
    wpList Try.prog ops Q (o :: rest) a W := by
  subst hn0 hn1
  obtain ⟨v1, w1, hr, h1, h2, _⟩ := run_app_text (W := W) o.type base _ l.length (B8s l) HO t hbytes hbase
  obtain ⟨A1, c1, rfl, _⟩ := own_slice h1
  refine wpList_plain hgd fun K hK => ?_
  unfold Oper.wp execOp
  simp only [ho, resolve, invoke, builtin, Sem.run_bind, Sem.run_pure, Result.andThen_ok, List.map_toArray, List.map_cons, List.map_nil, hs, hx, hr]
  refine hK _ _ (h A1 c1 w1 ?_ (hB.grown h2 hbase (own_base HO)) h2)
  unfold OwnB
  have e : t.data.toList.length = t.size := by rw [Array.length_toList]; rfl
  rw [List.length_append, B8s_append, e]
  exact h1
end Go.Proofs.Ytahlhdhljjpeoaa

/- How arguments that came in are opened, for the rows. -/
namespace Go.Proofs.Ytahlhdhljjpeoaa
open Go.ChangeShapes Go.WideShapes Go.ChangeAt Go.RowKit
set_option linter.unusedVariables false

theorem own_knob : ownKnob Try.prog.godebug = none := by kernel_rfl
theorem laid_out : laidOutB Try.prog = true := by kernel_rfl
theorem cells_u8 : Try.prog.cellsOf 5 = 1 := by kernel_rfl
theorem bytes_u8 : Try.prog.bytesOf 5 = 1 := by kernel_rfl

theorem byte_of_wf {n : Int} (h : (Lit.int .u8 n).wf = true) : ((UInt8.ofNat n.toNat).toNat : Int) = n := by
  have h1 : IntKind.u8.min = 0 := rfl
  have h2 : IntKind.u8.max = 255 := rfl
  simp only [Lit.wf, Bool.and_eq_true, decide_eq_true_eq, h1, h2] at h
  rw [UInt8.toNat_ofNat']
  omega
/-- A slice of bytes that came in. -/
theorem open_bytes {H : Type} {enc : TypeId × Value → H} {W : World} {base : Nat} {a : Option Addr} {len cap : Nat} {d : DataW H} {ps : List MemPlace} {ts : List TypeId} {ds : List (DataW H)} {j : Nat}
    (hsz : (DataW.weightsEach Try.prog ts ds).all (· ≤ reachBytes) = true) (ht : ts[j]? = some 61) (hd : ds[j]? = some d)
    (h : DataW.Trod enc Try.prog W base (fun _ => true) true 61 (.slice a len cap) d ps) :
    ∃ l : List UInt8, len = l.length ∧ l.length ≤ cap ∧ l.length ≤ 140737488351232 ∧ RdB W a l := by
  obtain ⟨fuel, hf⟩ := h
  rcases open_ints Try.underlying61 Try.underlying5 cells_u8 hf with ⟨hcs, _⟩ | ⟨x, len', cap', zs, hcs, _, hl, hm, hz, hx, hcell, hwz⟩
  · simp [Value.cells] at hcs
    obtain ⟨rfl, rfl, rfl⟩ := hcs
    exact ⟨[], rfl, Nat.le_refl _, by simp, RdB.nil _ _⟩
  · simp [Value.cells] at hcs
    obtain ⟨rfl, rfl, rfl⟩ := hcs
    obtain ⟨hx, _⟩ := Prod.mk.inj hx
    subst hx
    have hz2 : zs.length = cap := by simpa using hz
    have z := sized_slice hsz ht hd Try.underlying61
    rw [bytes_u8] at z
    simp only [lits, List.length_map, List.length_take, List.length_drop, reachBytes] at z
    have hlen : ((zs.take len).map fun n => UInt8.ofNat n.toNat).length = len := by simp; omega
    refine ⟨(zs.take len).map fun n => UInt8.ofNat n.toNat, hlen.symm, by omega, by omega, ?_⟩
    intro hn
    have hpos : 0 < len := by
      rcases Nat.eq_zero_or_pos len with h0 | h0
      · subst h0; simp [B8s] at hn
      · exact h0
    have h0 := hcell 0 (by omega)
    obtain ⟨b, off, spot⟩ := x
    have hspot : spot = none := by simpa [Addr.add] using World.cell?_spot h0
    subst hspot
    refine ⟨b, off, rfl, fun i u hu => ?_⟩
    have hi : i < len := by
      rcases Nat.lt_or_ge i len with h | h
      · exact h
      · rw [List.getElem?_eq_none (by rw [B8s_length, hlen]; exact h)] at hu; cases hu
    have := hcell i (by omega)
    rw [add_plain] at this
    rw [this]
    simp only [B8s, List.getElem?_map, List.getElem?_take, hi, if_true, List.getElem?_eq_getElem (show i < zs.length by omega), Option.map_some, Option.some.injEq] at hu
    subst hu
    have hw := byte_of_wf (hwz _ (List.getElem_mem (show i < zs.length by omega)))
    simp only [B8, hw]
    simp [List.getD_eq_getElem?_getD, List.getElem?_eq_getElem (show i < zs.length by omega)]
end Go.Proofs.Ytahlhdhljjpeoaa

/- The walks of ledgerstonelow's functions on bytes and numbers. -/
namespace Go.Proofs.Ytahlhdhljjpeoaa
open Go.RowKit
set_option maxHeartbeats 800000
set_option linter.unusedVariables false
set_option linter.unusedSimpArgs false

theorem SameBytes_any (w : World) (a b : Option Addr) (c d n m : Nat) (l r : List UInt8) (hn : n = l.length) (hm : m = r.length) (hl : RdB w a l) (hr : RdB w b r) :
    Calls Try.prog 75 #[.slice a n c, .slice b m d] w fun e w' => e = .returned (.bool (l == r)) ∧ w = w' := by
  subst hn hm
  have h1 := run_strB c hl
  have h2 := run_strB d hr
  have h3 := strB_toList l
  have h4 := strB_toList r
  go_enter Try.func75, Try.ntmps75
  go_wp2
  go_ret
  exact ⟨rfl, rfl⟩

theorem SameBytes_self (w : World) (a b : Option Addr) (c d n m : Nat) (l : List UInt8) (hn : n = l.length) (hm : m = l.length) (hl : RdB w a l) (hr : RdB w b l) :
    Calls Try.prog 75 #[.slice a n c, .slice b m d] w fun e w' => e = .returned (.bool true) ∧ w = w' := by
  refine (SameBytes_any w a b c d n m l l hn hm hl hr).mono ?_
  rintro e w' ⟨rfl, rfl⟩
  exact ⟨by simp, rfl⟩
theorem CopyBytes_any (w : World) (a : Option Addr) (c N : Nat) (l : List UInt8) (hN : N = l.length) (hl : l.length ≤ 200000000000000) (hr : RdB w a l) :
    Calls Try.prog 28 #[.slice a N c] w fun e w' =>
      ∃ A c', e = .returned (.slice A N c') ∧ OwnB w.heap.size w' A c' l ∧ Below w.heap.size w w' := by
  subst hN
  go_enter Try.func28, Try.ntmps28
  go_wp2_with (at_builtin; refine app_bytes rfl (.tmp 4) (.tmp 5) rfl w.heap.size none 0 0 [] rfl rfl (OwnB.nil _ _) a l.length c l rfl rfl hr l.length (by simp) (by simpa using hl) w (Below.refl _ _) (Nat.le_refl _) ?_; intro A1 c1 w2 ho2 hb2 _ _)
  go_ret
  exact ⟨A1, c1, rfl, by simpa using ho2, hb2⟩

end Go.Proofs.Ytahlhdhljjpeoaa

/- ledgerstonelow.ApartBytes over lists in blocks of their own. -/
namespace Go.Proofs.Ytahlhdhljjpeoaa
open Go.RowKit
set_option maxHeartbeats 3200000
set_option linter.unusedVariables false
set_option linter.unusedSimpArgs false

theorem below_drew_alloc (w : World) (o : Obj) : Below w.heap.size w (w.drew.alloc o) :=
  have h : Below w.heap.size w w.drew := ⟨rfl, rfl, rfl, Nat.le_refl _, fun _ _ => rfl⟩
  h.alloc (Nat.le_refl _) o
/-- append, and where the row lies then: in its place, or in a block of its own, and nothing old has turned. -/
theorem run_app2 {P : Program} {W : World} (t ty e : TypeId) (i : TypeInfo) (z : Value) (ht : P.underlying t = some (.slice e)) (hi : P.info? e = some i) (hz : i.zero = some z) (hzs : z.cells.size = i.size) (hsz : 0 < i.size)
    (base : Nat) (v : Value) (n : Nat) (xs : List Value) (HO : W.ownsRow base e i.size v n xs)
    (A : Option Addr) (m c : Nat) (ys : List Value) (hl : ys.length = m * i.size) (HR : RdV W A ys) (h1 : ∀ u ∈ ys, u.oneCell' = true)
    (hb0 : 0 < i.bytes) (hbytes : ((n + m) + (n + m) / 4 + 192) * i.bytes ≤ 281474976710656) (hbase : base ≤ W.heap.size) :
    ∃ v1 w1, (Builtin.append_ #[t, t] ty #[v, .slice A m c]).run P W = .ok v1 w1 ∧ w1.ownsRow base e i.size v1 (n + m) (xs ++ ys) ∧ ((v1.ownBlock = v.ownBlock ∧ W.grownBy w1 v.ownBlock) ∨ (v1.ownBlock = some W.heap.size ∧ Below W.heap.size W w1)) := by
  have h63 : n + m ≤ 281474976710656 := by
    have := Nat.le_mul_of_pos_right ((n + m) + (n + m) / 4 + 192) hb0
    omega
  have hmax : n + m ≤ maxLen := by simp only [maxLen]; omega
  by_cases hm : m = 0
  · subst hm
    obtain rfl : ys = [] := List.eq_nil_of_length_eq_zero (by simpa using hl)
    refine ⟨v, W, ?_, by simpa using HO, .inl ⟨rfl, World.grownBy.refl W _⟩⟩
    have hld : ∀ ad, (loadCells ad 0).run P W = .ok #[] W := fun ad => by simpa using run_loadCells_list (P := P) W ad [] (fun j v hj => by simp at hj)
    rcases HO.2 with ⟨rfl, rfl⟩ | ⟨g, cap, cur, rfl, _, _, hnc, _⟩
    · cases A <;> simp [Builtin.append_, run_underlying ht, sizeOf, typeInfo, hi, Builtin.lenOf, Builtin.firstCells, hld]
    · cases A <;> simp [Builtin.append_, run_underlying ht, sizeOf, typeInfo, hi, Builtin.lenOf, Builtin.firstCells, hnc, storeCells, hld]
  · have hpos : 0 < m * i.size := Nat.mul_pos (by omega) hsz
    obtain ⟨b, off, rfl, hc⟩ := HR (fun e => by rw [e] at hl; simp at hl; omega)
    have hnews : ∀ j u, ys[j]? = some u → W.cell? ((⟨b, off, none⟩ : Addr).add j) = some u := fun j u hu => by rw [add_plain]; exact hc j u hu
    rcases HO.2 with ⟨rfl, rfl⟩ | ⟨g, cap, cur, rfl, hbg, hg, hnc, hcm, hcs, htake⟩
    · obtain rfl : xs = [] := List.eq_nil_of_length_eq_zero (by simpa using HO.1)
      have hr := run_append_nil (P := P) W t ty e i z ht hi hz ⟨b, off, none⟩ m c ys hl hnews (by omega) (by omega) (Nat.le_trans (Nat.mul_le_mul_right _ (by omega)) hbytes)
      refine ⟨_, _, hr, ?_, .inr ⟨rfl, below_drew_alloc W _⟩⟩
      have := own_grown (W := W) (base := base) (e := e) (z := z) (n := m) hl hzs (grownCap_ge W m 0 e) (grownCap_le_maxLen W m 0 e (by omega)) hbase
      simpa using this
    · by_cases hroom : n + m ≤ cap
      · have hfit : n * i.size + ys.length ≤ cur.size := by rw [hl, hcs, ← Nat.add_mul]; exact Nat.mul_le_mul_right _ hroom
        have hr := run_append_room (P := P) W t ty e i ht hi g n cap cur hg ⟨b, off, none⟩ m c ys hl hnews h1 hroom hfit
        have ho := own_room hg hbg hcm hcs htake hl hroom
        exact ⟨_, _, hr, ho.1, .inl ⟨rfl, ho.2⟩⟩
      · have holds : ∀ j u, xs[j]? = some u → W.cell? ((⟨g, 0, none⟩ : Addr).add j) = some u := HO.cells (g := g) rfl
        have hr := run_append_grow (P := P) W t ty e i z ht hi hz ⟨g, 0, none⟩ n cap xs HO.1 holds ⟨b, off, none⟩ m c ys hl hnews (by omega) (by omega) (growslice_fits_wide (by omega) hbytes)
        refine ⟨_, _, hr, ?_, .inr ⟨rfl, below_drew_alloc W _⟩⟩
        have := own_grown (W := W) (base := base) (e := e) (z := z) (n := n + m) (xs := xs ++ ys) (by rw [List.length_append, HO.1, hl, Nat.add_mul]) hzs (grownCap_ge W (n + m) cap e) (grownCap_le_maxLen W (n + m) cap e hmax) hbase
        simpa using this
section
variable {ops : Array Oper} {rest : List Oper} {o : Oper} {a : Act} {Q : Exit → Act → World → Prop}
/-- append on bytes: in its place, or in a block of its own. -/
theorem app_bytes2 {W : World} (hgd : o.guard = none) (s x : Operand)
    (ho : o.op = .call { callee := .builtin .append, args := #[s, x], argTypes := #[61, 61] })
    (base : Nat) (A0 : Option Addr) (c0 n0 : Nat) (l : List UInt8) (hn0 : n0 = l.length) (hs : a.eval s = .slice A0 n0 c0) (HO : OwnB base W A0 c0 l)
    (A : Option Addr) (m c : Nat) (r : List UInt8) (hx : a.eval x = .slice A m c) (hl : m = r.length) (HR : RdB W A r)
    (n1 : Nat) (hn1 : n1 = l.length + r.length) (hbytes : l.length + r.length ≤ 200000000000000) (hbase : base ≤ W.heap.size)
    (h : ∀ A1 c1 w1, OwnB base w1 A1 c1 (l ++ r) → ((A1.map (·.block) = A0.map (·.block) ∧ W.grownBy w1 (A0.map (·.block))) ∨ (A1.map (·.block) = some W.heap.size ∧ Below W.heap.size W w1)) →
      wpList Try.prog ops Q rest (a.put o.dst (.slice A1 n1 c1)) w1) :
    wpList Try.prog ops Q (o :: rest) a W := by
  subst hl hn0 hn1
  obtain ⟨i0, hi, hz0, hz1, hz2⟩ := info_parts info_u8
  have hi1 : i0.size = 1 := hz1
  have HO' : W.ownsRow base 5 i0.size (.slice A0 l.length c0) l.length (B8s l) := by rw [hz1]; exact HO
  obtain ⟨v1, w1, hr, h1, h2⟩ := run_app2 (W := W) 61 o.type 5 i0 (.int .u8 0) Try.underlying61 hi hz0 (by rw [hz1]; rfl) (by rw [hz1]; decide) base _ l.length (B8s l) HO' A r.length c (B8s r) (by simp [B8s, hz1]) HR (B8s_one r) (by rw [hz2]; decide) (by rw [hz2]; omega) hbase
  obtain ⟨A1, c1, rfl, _⟩ := own_slice h1
  refine wpList_plain hgd fun K hK => ?_
  unfold Oper.wp execOp
  simp only [ho, resolve, invoke, builtin, Sem.run_bind, Sem.run_pure, Result.andThen_ok, List.map_toArray, List.map_cons, List.map_nil, hs, hx, hr]
  refine hK _ _ (h A1 c1 w1 ?_ ?_)
  · unfold OwnB
    rw [List.length_append, B8s_append]
    rw [hz1] at h1
    exact h1
  · cases A1 <;> cases A0 <;> simp [Value.ownBlock] at h2 ⊢ <;> exact h2
end
end Go.Proofs.Ytahlhdhljjpeoaa

/- ledgerstonelow.markByte. -/
namespace Go.Proofs.Ytahlhdhljjpeoaa
open Go.RowKit
set_option maxHeartbeats 3200000
set_option linter.unusedVariables false
set_option linter.unusedSimpArgs false

/-- The mark of place i in list k. -/
def mkB (k i : Nat) : UInt8 := UInt8.ofNat ((1000003 * (k + 7) + i) * 11400714819323198485 % 18446744073709551616 / 72057594037927936)
theorem mkB_toNat (k i : Nat) : (mkB k i).toNat = (1000003 * (k + 7) + i) * 11400714819323198485 % 18446744073709551616 / 72057594037927936 := by
  have : (1000003 * (k + 7) + i) * 11400714819323198485 % 18446744073709551616 < 18446744073709551616 := Nat.mod_lt _ (by decide)
  rw [mkB, UInt8.toNat_ofNat']
  omega
end Go.Proofs.Ytahlhdhljjpeoaa
