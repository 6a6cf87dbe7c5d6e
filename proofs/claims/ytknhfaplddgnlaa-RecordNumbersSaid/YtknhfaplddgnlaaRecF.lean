/- record.Put: what it makes, and rows of blocks. -/
import Derived.Test.YtknhfaplddgnlaaRecD
import Derived.Test.YtknhfaplddgnlaaRecE
import Derived.Test.YtknhfaplddgnlaaSums
namespace Go.Proofs.Ytknhfaplddgnlaa
open Go.RowKit
set_option maxHeartbeats 1000000
set_option maxRecDepth 100000
set_option linter.unusedVariables false
set_option linter.unusedSimpArgs false

/-- What a head says of an image. -/
def tabE (x : Img) : List UInt8 := be x.1.toNat 2 ++ hidB x.2
def tabB (ims : List Img) : List UInt8 := ims.flatMap tabE
def lB (ims : List Img) : List UInt8 := tabB ims ++ zeros (4026 - 66 * ims.length)
def inB (ims : List Img) : List UInt8 := be ims.length 2 ++ be (crcMore 0 (lB ims)) 4 ++ lB ims
def headB (ep seq : Nat) (ims : List Img) : List UInt8 := spreadB (stampB ep seq) (inB ims)
/-- A group's blocks. -/
def putB (ep seq : Nat) (ims : List Img) : List (List UInt8) := headB ep seq ims :: ims.map fun x => markB (stampB ep seq) x.2
theorem tabE_length (x : Img) : (tabE x).length = 66 := by simp [tabE, be_length, hidB_length]
theorem tabB_length : ∀ ims : List Img, (tabB ims).length = 66 * ims.length
  | [] => rfl
  | x :: ims => by
    have := tabB_length ims
    simp only [tabB, List.flatMap_cons, List.length_append, List.length_cons, tabE_length] at *
    omega
theorem tabB_snoc (ims : List Img) (x : Img) : tabB (ims ++ [x]) = tabB ims ++ be x.1.toNat 2 ++ hidB x.2 := by simp [tabB, tabE]
theorem lB_length (ims : List Img) (h : ims.length ≤ 32) : (lB ims).length = 4026 := by
  simp only [lB, List.length_append, tabB_length, zeros_length]
  omega
theorem inB_length (ims : List Img) (h : ims.length ≤ 32) : (inB ims).length = 4032 := by
  simp only [inB, List.length_append, be_length, lB_length ims h]
theorem headB_length (ep seq : Nat) (ims : List Img) (h : ims.length ≤ 32) : (headB ep seq ims).length = 4096 := spreadB_length (stampB_length _ _) (inB_length ims h)

/-- Blocks of 4096 bytes, each in a block of its own. -/
structure Blk (base : Nat) (w : World) (gs : List (Nat × Nat)) (ls : List (List UInt8)) : Prop where
  len : gs.length = ls.length
  own : ∀ (i : Nat) (p : Nat × Nat) (l : List UInt8), gs[i]? = some p → ls[i]? = some l → OwnB base w (some ⟨p.1, 0, none⟩) p.2 l ∧ l.length = 4096
  dif : (gs.map (·.1)).Nodup
/-- Their values. -/
def vals (gs : List (Nat × Nat)) : List Value := gs.map fun p => .slice (some ⟨p.1, 0, none⟩) 4096 p.2
theorem vals_length (gs : List (Nat × Nat)) : (vals gs).length = gs.length := by simp [vals]
theorem vals_one (gs : List (Nat × Nat)) : ∀ u ∈ vals gs, u.oneCell' = true := by
  intro u hu
  simp only [vals, List.mem_map] at hu
  obtain ⟨p, _, rfl⟩ := hu
  rfl
theorem Blk.nil (base : Nat) (w : World) : Blk base w [] [] := ⟨rfl, fun i p l h => by simp at h, by simp⟩
theorem Blk.get {base : Nat} {w : World} {gs : List (Nat × Nat)} {ls : List (List UInt8)} (h : Blk base w gs ls) {p : Nat × Nat} (hp : p ∈ gs) : ∃ l, OwnB base w (some ⟨p.1, 0, none⟩) p.2 l ∧ l.length = 4096 := by
  obtain ⟨i, hi, rfl⟩ := List.getElem_of_mem hp
  have hl : i < ls.length := by rw [← h.len]; exact hi
  exact ⟨ls[i], h.own i _ _ (List.getElem?_eq_getElem hi) (List.getElem?_eq_getElem hl)⟩
theorem Blk.lt {base : Nat} {w : World} {gs : List (Nat × Nat)} {ls : List (List UInt8)} (h : Blk base w gs ls) {p : Nat × Nat} (hp : p ∈ gs) : base ≤ p.1 ∧ p.1 < w.heap.size := by
  obtain ⟨l, hl, _⟩ := h.get hp
  exact hl.lt
theorem Blk.u8 {base : Nat} {w : World} {gs : List (Nat × Nat)} {ls : List (List UInt8)} (h : Blk base w gs ls) {p : Nat × Nat} (hp : p ∈ gs) : ∃ cs : Array Value, w.heap[p.1]? = some (.cells cs 5 (0, 0)) := by
  obtain ⟨l, hl, _⟩ := h.get hp
  obtain ⟨cur, hc, _⟩ := hl.row
  exact ⟨_, hc⟩
theorem Blk.kpt {S : Nat → Prop} {base : Nat} {w w' : World} {gs : List (Nat × Nat)} {ls : List (List UInt8)} (h : Blk base w gs ls) (k : Kpt S w w') (hs : ∀ p ∈ gs, ¬ S p.1) : Blk base w' gs ls :=
  ⟨h.len, fun i p l h1 h2 => ⟨(h.own i p l h1 h2).1.kpt k (hs p (List.mem_of_getElem? h1)), (h.own i p l h1 h2).2⟩, h.dif⟩
theorem Blk.below {base : Nat} {w w' : World} {gs : List (Nat × Nat)} {ls : List (List UInt8)} (h : Blk base w gs ls) (k : Below w.heap.size w w') : Blk base w' gs ls := h.kpt (S := fun _ => False) (.of_below k) (fun _ _ h => h)
theorem Blk.mono {base base' : Nat} {w : World} {gs : List (Nat × Nat)} {ls : List (List UInt8)} (h : Blk base w gs ls) (hb : base' ≤ base) : Blk base' w gs ls :=
  ⟨h.len, fun i p l h1 h2 => ⟨(h.own i p l h1 h2).1.mono hb, (h.own i p l h1 h2).2⟩, h.dif⟩
theorem Blk.snoc {base : Nat} {w : World} {gs : List (Nat × Nat)} {ls : List (List UInt8)} (h : Blk base w gs ls) {g c : Nat} {l : List UInt8} (ho : OwnB base w (some ⟨g, 0, none⟩) c l) (hl : l.length = 4096) (hg : g ∉ gs.map (·.1)) : Blk base w (gs ++ [(g, c)]) (ls ++ [l]) := by
  refine ⟨by simp [h.len], fun i p x h1 h2 => ?_, ?_⟩
  · have e := h.len
    by_cases hi : i < gs.length
    · rw [List.getElem?_append_left hi] at h1
      rw [List.getElem?_append_left (by omega)] at h2
      exact h.own i p x h1 h2
    · rw [List.getElem?_append_right (by omega)] at h1
      rw [List.getElem?_append_right (by omega)] at h2
      rw [e] at h1
      generalize i - ls.length = k at *
      cases k with
      | zero => simp at h1 h2; subst h1 h2; exact ⟨ho, hl⟩
      | succ k => simp at h1
  · rw [List.map_append, List.nodup_append]
    refine ⟨h.dif, by simp, fun x hx y hy => ?_⟩
    simp only [List.map_cons, List.map_nil, List.mem_singleton] at hy
    subst hy
    rintro rfl
    exact hg hx
theorem Blk.cons {base : Nat} {w : World} {gs : List (Nat × Nat)} {ls : List (List UInt8)} (h : Blk base w gs ls) {g c : Nat} {l : List UInt8} (ho : OwnB base w (some ⟨g, 0, none⟩) c l) (hl : l.length = 4096) (hg : g ∉ gs.map (·.1)) : Blk base w ((g, c) :: gs) (l :: ls) := by
  refine ⟨by simp [h.len], fun i p x h1 h2 => ?_, ?_⟩
  · cases i with
    | zero => simp at h1 h2; subst h1 h2; exact ⟨ho, hl⟩
    | succ i => exact h.own i p x (by simpa using h1) (by simpa using h2)
  · rw [List.map_cons, List.nodup_cons]
    exact ⟨hg, h.dif⟩
theorem vals_snoc (gs : List (Nat × Nat)) (g c : Nat) : vals (gs ++ [(g, c)]) = vals gs ++ [.slice (some ⟨g, 0, none⟩) 4096 c] := by simp [vals]
/-- A row of lists is not one of bytes. -/
theorem row_no {w : World} {base n : Nat} {v : Value} {xs : List Value} {e : TypeId} {size : Nat} (h : w.ownsRow base e size v n xs) {b : Nat} (hb : v.ownBlock = some b) {cs : Array Value} {t : TypeId} (hc : w.heap[b]? = some (.cells cs t (0, 0))) : t = e := by
  rcases h.2 with ⟨rfl, _⟩ | ⟨g', cap, cur, rfl, hbb, hg, r⟩
  · simp [Value.ownBlock] at hb
  · simp only [Value.ownBlock, Option.map_some, Option.some.injEq] at hb
    subst hb
    rw [hc] at hg
    simp only [Option.some.injEq, Obj.cells.injEq] at hg
    exact hg.2.1
/-- A group's blocks in memory. -/
structure OwLs (base : Nat) (w : World) (L cL : Nat) (gs : List (Nat × Nat)) (ls : List (List UInt8)) : Prop where
  row : w.ownsRow base 31 1 (.slice (some ⟨L, 0, none⟩) ls.length cL) ls.length (vals gs)
  blk : Blk base w gs ls
theorem ownsRow_kpt {S : Nat → Prop} {w w' : World} {base n size : Nat} {e : TypeId} {v : Value} {xs : List Value} (h : w.ownsRow base e size v n xs) (k : Kpt S w w') (hs : ∀ b, v.ownBlock = some b → ¬ S b) : w'.ownsRow base e size v n xs := by
  refine ⟨h.1, ?_⟩
  rcases h.2 with h0 | ⟨g', cap, cur, rfl, hb, hg, r⟩
  · exact .inl h0
  · exact .inr ⟨g', cap, cur, rfl, hb, (k.block g' (heap_in hg) (hs g' rfl)).trans hg, r⟩
theorem OwLs.below {base : Nat} {w w' : World} {L cL : Nat} {gs : List (Nat × Nat)} {ls : List (List UInt8)} (h : OwLs base w L cL gs ls) (k : Below w.heap.size w w') : OwLs base w' L cL gs ls := ⟨own_below h.row k, h.blk.below k⟩
theorem OwLs.mono {base base' : Nat} {w : World} {L cL : Nat} {gs : List (Nat × Nat)} {ls : List (List UInt8)} (h : OwLs base w L cL gs ls) (hb : base' ≤ base) : OwLs base' w L cL gs ls := ⟨own_mono h.row hb, h.blk.mono hb⟩
/-- append of noughts, and what it keeps. -/
theorem app_zeros2 {ops : Array Oper} {rest : List Oper} {o : Oper} {a : Act} {Q : Exit → Act → World → Prop} {W : World} (hgd : o.guard = none) (s x : Operand)
    (ho : o.op = .call { callee := .builtin .append, args := #[s, x], argTypes := #[31, 3] })
    (base : Nat) (A0 : Option Addr) (c0 n0 : Nat) (l : List UInt8) (hn0 : n0 = l.length) (hs : a.eval s = .slice A0 n0 c0) (HO : OwnB base W A0 c0 l)
    (m : Nat) (y : Int) (hy : y = (m : Int)) (hx : a.eval x = .int .i64 y)
    (n1 : Nat) (hn1 : n1 = l.length + m) (hbytes : l.length + m ≤ 100000000000000) (hbase : base ≤ W.heap.size)
    (h : ∀ A1 c1 w1, OwnB base w1 A1 c1 (l ++ zeros m) → Kpt (fun b => blkOf A0 b) W w1 → wpList Try.prog ops Q rest (a.put o.dst (.slice A1 n1 c1)) w1) :
    wpList Try.prog ops Q (o :: rest) a W := by
  subst hn0 hn1 hy
  obtain ⟨v1, w1, hr, h1, h2, _⟩ := run_app_zeros (W := W) o.type base _ l.length l HO m hbytes hbase
  obtain ⟨A1, c1, rfl, _⟩ := own_slice h1
  refine wpList_plain hgd fun K hK => ?_
  unfold Oper.wp execOp
  simp only [ho, resolve, invoke, builtin, Sem.run_bind, Sem.run_pure, Result.andThen_ok, List.map_toArray, List.map_cons, List.map_nil, hs, hx, hr]
  refine hK _ _ (h A1 c1 w1 ?_ (Kpt.of_grown h2 fun j e => ?_))
  · unfold OwnB
    rw [List.length_append, B8s_append, zeros_length]
    exact h1
  · cases A0 with
    | none => simp [Value.ownBlock] at e
    | some ad => simpa [Value.ownBlock, blkOf] using e
theorem info_L : (Try.prog.info? 31).map (fun i => (i.zero, i.size, i.bytes)) = some (some (.slice none 0 0), 1, 24) := by kernel_rfl
end Go.Proofs.Ytknhfaplddgnlaa
