/- Texts joined: BtO. -/
import Derived.Test.YtahlhdhljjpeoaaGBitsErrors15
/- bits.SetInode (printed by gen24j.py). -/
namespace Go.Proofs.Ytahlhdhljjpeoaa
open Go.RowKit
set_option maxHeartbeats 3200000
set_option maxRecDepth 100000
set_option linter.unusedVariables false
set_option linter.unusedSimpArgs false

theorem Alloc_is {base : Nat} (w : World) (P : Nat) {S : Nat → Prop} {d : Pl} (h : IsPl QT base w P S d) (hl : -10000000 ≤ d.left) (hd : d.did ≤ 100000) (l : Lay) (hbl : rightL l = true → l.bl = (d.b.length : Int)) (n : Int) :
    Calls Try.prog 21 #[spV P, l.val, .int .i64 n] w (AllocPost base w P S (alcP d l n)) := by
  cases hR : rightL l with
  | false =>
    have e : alcP d l n = (d, [], 2) := by simp [alcP, hR]
    rw [e]
    exact Alloc_wrong w P h l hR n
  | true =>
    cases hf : alOk l n with
    | false =>
      have e : alcP d l n = (d, [], 2) := by simp [alcP, hR, hf]
      rw [e]
      exact Alloc_no w P h l hR n hf
    | true => exact Alloc_yes w P h hl hd l (hbl hR) hR n hf
theorem OwnB.rowS {base g c : Nat} {w : World} {l : List UInt8} (h : OwnB base w (some ⟨g, 0, none⟩) c l) : ∃ cur : List Value, w.heap[g]? = some (.cells cur.toArray 5 (0, 0)) ∧ cur.length = c ∧ cur.take l.length = B8s l := by
  rcases h.2 with ⟨hv, _⟩ | ⟨g', cap, cur, hv, hb, hg, hn, hm, hs, ht⟩
  · simp at hv
  · simp only [Value.slice.injEq, Option.some.injEq, Addr.mk.injEq, and_true, true_and] at hv
    obtain ⟨rfl, rfl⟩ := hv
    exact ⟨cur.toList, hg, by simpa using hs, by simpa using ht⟩
theorem splice_takeS {α : Type} (cur : List α) (n off : Nat) (ys : List α) (h : off + ys.length ≤ n) (hn : n ≤ cur.length) : (splice cur off ys).take n = splice (cur.take n) off ys := by
  have e1 : (cur.take off).take n = cur.take off := by rw [List.take_take, Nat.min_eq_right (by omega)]
  have e2 : (cur.take n).take off = cur.take off := by rw [List.take_take, Nat.min_eq_left (by omega)]
  have e3 : (cur.take off).length = off := by rw [List.length_take]; omega
  unfold splice
  rw [List.take_append, e1, e2, e3, List.take_append, List.take_of_length_le (show ys.length ≤ n - off by omega), List.drop_take]
  congr 3
  omega
theorem B8s_spliceS (l r : List UInt8) (off : Nat) : B8s (splice l off r) = splice (B8s l) off (B8s r) := by simp [splice, B8s]
theorem splice_lengthS {α : Type} (l r : List α) (off : Nat) (h : off + r.length ≤ l.length) : (splice l off r).length = l.length := by simp [splice]; omega
theorem OwnB.copiedS {base g c off : Nat} {w w' : World} {l r : List UInt8} {cur : List Value} (h : OwnB base w (some ⟨g, 0, none⟩) c l) (hg : w.heap[g]? = some (.cells cur.toArray 5 (0, 0)))
    (hr : off + r.length ≤ l.length) (hg' : w'.heap[g]? = some (.cells (splice cur off (B8s r)).toArray 5 (0, 0))) : OwnB base w' (some ⟨g, 0, none⟩) c (splice l off r) := by
  rcases h.2 with ⟨hv, _⟩ | ⟨g', cap, cur', hv, hb, hg2, hn, hm, hs, ht⟩
  · simp at hv
  · simp only [Value.slice.injEq, Option.some.injEq, Addr.mk.injEq, and_true, true_and] at hv
    obtain ⟨rfl, rfl⟩ := hv
    rw [hg] at hg2
    simp only [Option.some.injEq, Obj.cells.injEq, and_true, true_and] at hg2
    subst hg2
    simp only [List.size_toArray, Nat.mul_one] at hs ht
    have hl : (splice l off r).length = l.length := splice_lengthS _ _ _ hr
    refine ⟨by simp [B8s], .inr ⟨g, c, _, by rw [hl], hb, hg', by rw [hl]; exact hn, hm, ?_, ?_⟩⟩
    · simp only [List.size_toArray, Nat.mul_one]
      rw [splice_lengthS _ _ _ (by rw [B8s_length]; omega)]
      exact hs
    · rw [hl, Nat.mul_one]
      rw [splice_takeS _ _ _ _ (by rw [B8s_length]; exact hr) (by omega), ht, B8s_spliceS]
/-- The run of a copy of bytes into the middle of a row. -/
theorem run_copyB (W : World) (ty : TypeId) (g off dLen dCap : Nat) (A : Option Addr) (m c : Nat) (r : List UInt8) (hm : m = r.length) (h0 : 0 < m) (hd : m ≤ dLen) (HR : RdB W A r) (cur : List Value) (hg : W.heap[g]? = some (.cells cur.toArray 5 (0, 0))) (hfit : off + m ≤ cur.length) :
    (Builtin.copy_ #[61, 61] ty #[.slice (some ⟨g, off, none⟩) dLen dCap, .slice A m c]).run Try.prog W = .ok (goInt (m : Int)) (W.setRow g (splice cur off (B8s r)).toArray) := by
  subst hm
  obtain ⟨i0, hi, hz0, hz1, hz2⟩ := info_parts info_u8
  obtain ⟨b, o2, rfl, hc⟩ := HR (by intro e; have := B8s_length r; rw [e] at this; simp at this; omega)
  have h := run_copy_row (P := Try.prog) W 61 61 ty 5 g off dLen dCap ⟨b, o2, none⟩ r.length c cur.toArray 5 (B8s r) Try.underlying61 (by rw [hi]; simp [hz1]) hg (by rw [B8s_length]; exact (Nat.min_eq_left hd).symm)
    (fun j v hv => by rw [add_plain]; exact hc j v hv) (by simpa [B8s_length] using hfit) (B8s_one _)
  rw [h, B8s_length]
  simp [splice, B8s_length]
theorem kpt_setRow (W : World) (g : Nat) (cs : Array Value) : Kpt (fun b => b = g) W (W.setRow g cs) := ⟨rfl, rfl, rfl, by simp, fun k _ hk => setRow_other _ g k _ (fun e => hk (by simp [e]))⟩
theorem Dat.lower {Q : Nat → Prop} {w : World} {v : Value} {l : List UInt8} (h : Dat Q w v l) : Dat (fun b => b < w.heap.size) w v l := by
  obtain ⟨b, off, c, cs, e, h1, h2, h3, h4, h5⟩ := h
  exact ⟨b, off, c, cs, e, h1, h2, h3, h4, heap_in h1⟩
theorem IsPl.lower {Q : Nat → Prop} {base : Nat} {w : World} {P : Nat} {S : Nat → Prop} {d : Pl} (h : IsPl Q base w P S d) : IsPl (fun b => b < w.heap.size) base w P S d := by
  obtain ⟨vb, vd, hS, hP, hr, hp, ho⟩ := h
  obtain ⟨⟨xs, gs, cs, a1, a2, a3⟩, hd⟩ := hp
  exact ⟨vb, vd, hS, hP, hr, ⟨⟨xs, gs, cs, a1, a2, a3.1, fun i v l h1 h2 => (a3.2 i v l h1 h2).lower⟩, hd⟩, ho⟩
theorem IsPl.monoQ {Q Q' : Nat → Prop} {base : Nat} {w : World} {P : Nat} {S : Nat → Prop} {d : Pl} (h : IsPl Q base w P S d) (hq : ∀ b, Q b → Q' b) : IsPl Q' base w P S d := by
  obtain ⟨vb, vd, hS, hP, hr, hp, ho⟩ := h
  obtain ⟨⟨xs, gs, cs, a1, a2, a3⟩, hd⟩ := hp
  exact ⟨vb, vd, hS, hP, hr, ⟨⟨xs, gs, cs, a1, a2, a3.monoQ hq⟩, hd⟩, ho⟩
theorem IsPl.kptQ {Q T : Nat → Prop} {base : Nat} {w w' : World} {P : Nat} {S : Nat → Prop} {d : Pl} (h : IsPl Q base w P S d) (k : Kpt T w w') (hT : ∀ b, Q b → ¬ T b) (hST : ∀ b, S b → ¬ T b) : IsPl Q base w' P S d := by
  obtain ⟨vb, vd, rfl, hP, hr, hp, ho⟩ := h
  obtain ⟨⟨xs, gs, cs, a1, a2, a3⟩, ⟨xd, A, c, b1, b2⟩⟩ := hp
  exact ⟨vb, vd, rfl, hP, (k.block P (heap_in hr) (hST P (.inl rfl))).trans hr, ⟨⟨xs, gs, cs, a1, own_kpt a2 k (fun b hb => hST b (.inr (.inl hb))), a3.kptQ k hT⟩, ⟨xd, A, c, b1, own_kpt b2 k (fun b hb => hST b (.inr (.inr hb)))⟩⟩, ho⟩
theorem TurnP.toT {Q : Nat → Prop} {base : Nat} {w w' : World} {P : Nat} {S : Nat → Prop} {d' : Pl} (h : TurnP Q base w P S w' d') : TurnP QT base w P S w' d' := by
  obtain ⟨S', h1, h2, h3⟩ := h
  exact ⟨S', h1.monoQ (fun _ _ => trivial), h2, h3⟩
/-- What SetInode does. -/
def seiP (d : Pl) (l : Lay) (i : Int) (x : Ind) : Pl × Int :=
  if rightL l = true then if okInd x = true then if whE d l i = 0 then
    if (whD d l i).spent = true then ((whD d l i).tick, 4) else ((whD d l i).tick.put (inoB l i).toNat (splice (whB d l i) (inoA l i).toNat (putInd x)), 0)
    else (whD d l i, whE d l i) else (d, 2) else (d, 2)
theorem SetInode_wrong {base : Nat} (w : World) (P : Nat) {S : Nat → Prop} {d : Pl} (h : IsPl QT base w P S d) (l : Lay) (hR : rightL l = false) (i : Int) (x : Ind) (xa : Option Addr) (xc : Nat) :
    Calls Try.prog 26 #[spV P, l.val, .int .i64 i, x.val xa xc] w fun e w' => e = .returned (.int .i64 2) ∧ TurnP QT base w P S w' d := by
  have WR := fun w => bitsWrong_any w P l
  have hw : wrgE l = 2 := by simp [wrgE, hR]
  simp only [hw] at WR
  have H := hid h
  clear h hw hR
  obtain ⟨b0, b1, b2, b3, b4, b5, b6⟩ := l
  obtain ⟨xk, xl, xs, xn, dir⟩ := x
  simp only [Lay.val, spV, Ind.val, indCells] at WR ⊢
  have hb2 : Below w.heap.size w ((w.alloc (.cells #[.int .i64 b0, .int .i64 b1, .int .i64 b2, .int .i64 b3, .int .i64 b4, .int .i64 b5, .int .i64 b6] 39)).alloc (.cells #[.int .u8 (xk : Int), .int .i64 xl, .int .i64 xs, .slice xa dir.length xc, .int .i64 xn] 54)) := ((Below.refl _ _).alloc (Nat.le_refl _) _).alloc (by simp) _
  have HB2 := hid hb2
  clear hb2
  go_enter Try.func26, Try.ntmps26
  go_wp2_with fail
  refine (WR _).mono ?_
  rintro e w1 ⟨rfl, b1'⟩
  have HB := hid (HB2.out.trans (b1'.mono HB2.out.size))
  clear WR b1'
  go_wp2
  go_ret
  exact ⟨rfl, H.out.still HB.out⟩
theorem SetInode_no {base : Nat} (w : World) (P : Nat) {S : Nat → Prop} {d : Pl} (h : IsPl QT base w P S d) (l : Lay) (hR : rightL l = true) (i : Int) (x : Ind) (xa : Option Addr) (xc : Nat) (hi : x.in_) (hr : RdX w xa x.dir) (hok : okInd x = false) :
    Calls Try.prog 26 #[spV P, l.val, .int .i64 i, x.val xa xc] w fun e w' => e = .returned (.int .i64 2) ∧ TurnP QT base w P S w' d := by
  have WR := fun w => bitsWrong_any w P l
  have hw : wrgE l = 0 := by simp [wrgE, hR]
  simp only [hw] at WR
  have PI := fun (W : World) (hrW : RdX W xa x.dir) => PutInode_any W x xa xc hi hrW
  have hE : errInd x = 2 := by simp [errInd, hok]
  have hP : putInd x = [] := by simp [putInd, hok]
  simp only [hE, hP, List.length_nil] at PI
  have H := hid h; have HRX := hid hr; have HPI := hid PI
  clear h hw hR hi hr hok hE hP PI
  obtain ⟨b0, b1, b2, b3, b4, b5, b6⟩ := l
  obtain ⟨xk, xl, xs, xn, dir⟩ := x
  simp only [Lay.val, spV, Ind.val, indCells] at WR HPI HRX ⊢
  have hz : (w.alloc (.cells #[.int .i64 b0, .int .i64 b1, .int .i64 b2, .int .i64 b3, .int .i64 b4, .int .i64 b5, .int .i64 b6] 39)).heap.size = w.heap.size + 1 := by simp
  have hrI := heap_alloc_new (w.alloc (.cells #[.int .i64 b0, .int .i64 b1, .int .i64 b2, .int .i64 b3, .int .i64 b4, .int .i64 b5, .int .i64 b6] 39)) (.cells #[.int .u8 (xk : Int), .int .i64 xl, .int .i64 xs, .slice xa dir.length xc, .int .i64 xn] 54)
  rw [hz] at hrI
  have hb2 : Below w.heap.size w ((w.alloc (.cells #[.int .i64 b0, .int .i64 b1, .int .i64 b2, .int .i64 b3, .int .i64 b4, .int .i64 b5, .int .i64 b6] 39)).alloc (.cells #[.int .u8 (xk : Int), .int .i64 xl, .int .i64 xs, .slice xa dir.length xc, .int .i64 xn] 54)) := ((Below.refl _ _).alloc (Nat.le_refl _) _).alloc (by simp) _
  have HB2 := hid hb2; have HRI := hid hrI
  clear hb2 hz hrI
  go_enter Try.func26, Try.ntmps26
  go_wp2_with fail
  refine (WR _).mono ?_
  rintro e w1 ⟨rfl, b1'⟩
  have hb := HB2.out.trans (b1'.mono HB2.out.size)
  obtain ⟨y0, y1, y2, y3, y4⟩ := five5 ((b1'.block _ (heap_in HRI.out)).trans HRI.out)
  have PI := HPI.out w1 (HRX.out.below hb)
  have HB := hid hb
  clear WR b1' hb HPI
  go_wp2_with fail
  refine PI.mono ?_
  rintro e w2 ⟨A, c', rfl, ho, b2'⟩
  have HB3 := hid (HB.out.trans (b2'.mono HB.out.size))
  clear PI b2' ho y0 y1 y2 y3 y4
  go_wp2
  go_ret
  exact ⟨rfl, H.out.still HB3.out⟩
theorem SetInode_yes {base : Nat} (w : World) (P : Nat) {S : Nat → Prop} {d : Pl} (h : IsPl QT base w P S d) (hl : -10000000 ≤ d.left) (hd : d.did ≤ 100000) (l : Lay) (hbl : l.bl = (d.b.length : Int)) (hR : rightL l = true) (i : Int) (hii : -9223372036854775808 ≤ i ∧ i ≤ 9223372036854775807) (x : Ind) (xa : Option Addr) (xc : Nat) (hi : x.in_) (hr : RdX w xa x.dir) (hok : okInd x = true) :
    Calls Try.prog 26 #[spV P, l.val, .int .i64 i, x.val xa xc] w fun e w' => e = .returned (.int .i64 (seiP d l i x).2) ∧ TurnP QT base w P S w' (seiP d l i x).1 := by
  have WR := fun w => bitsWrong_any w P l
  have hw : wrgE l = 0 := by simp [wrgE, hR]
  simp only [hw] at WR
  have PI := fun (W : World) (hrW : RdX W xa x.dir) => PutInode_any W x xa xc hi hrW
  have hE : errInd x = 0 := by simp [errInd, hok]
  have hPl := putInd_length hok
  obtain ⟨ob, hob⟩ : ∃ ob, ob = putInd x := ⟨_, rfl⟩
  simp only [hE, hPl] at PI
  simp only [← hob] at PI hPl
  have h := h.lower
  have WH := fun (W : World) (hW : IsPl (fun b => b < w.heap.size) base W P S d) => where_is W P hW (by omega) l i hii
  unfold WherePost at WH
  obtain ⟨R, hRe⟩ : ∃ R, R = seiP d l i x := ⟨_, rfl⟩
  have hFP : R = if whE d l i = 0 then
    if (whD d l i).spent = true then ((whD d l i).tick, 4) else ((whD d l i).tick.put (inoB l i).toNat (splice (whB d l i) (inoA l i).toNat ob), 0)
    else (whD d l i, whE d l i) := by
    rw [hRe, hob]
    simp only [seiP, hR, hok, if_true]
  rw [← hRe]
  have hblen := whB_len h.ok l i
  have hin := right_in hR
  have hwd : whE d l i = 0 → (whD d l i = d.tick) ∧ ∃ n a : Nat, inoB l i = (n : Int) ∧ inoA l i = (a : Int) ∧ n < d.b.length ∧ a + 64 ≤ 4096 := by
    intro e
    have hio : inoOk l i = true := by
      cases hc : inoOk l i with
      | true => rfl
      | false => simp [whE, hc] at e
    obtain ⟨n1, n2, n3⟩ := ino_yes hio
    have h2 : 1 ≤ i ∧ i ≤ l.ib * 64 := by unfold inoOk at hio; simp only [Bool.and_eq_true, decide_eq_true_eq] at hio; exact hio.2
    refine ⟨by simp [whD, hio], (inoB l i).toNat, (inoA l i).toNat, by omega, by omega, by omega, by omega⟩
  have H := hid h; have HRX := hid hr; have HPI := hid PI; have HFP := hid hFP; have HWD := hid hwd; have HBLEN := hid hblen; have HWH := hid WH; have HPL := hid hPl
  have htick := hid (tick_b d)
  have htl : d.left - 1 ≤ d.tick.left := by
    unfold Pl.tick
    split
    · exact Int.le_refl _
    · omega
  clear h hw hR hi hr hok hE PI hob hRe hFP hwd hblen WH hin hbl hPl
  generalize hWE : whE d l i = E at *
  generalize hWB : whB d l i = blk at *
  generalize hWDD : whD d l i = dd at *
  generalize hxb : inoB l i = xb at *
  generalize hxa : inoA l i = xA at *
  clear hWE hWB hWDD hxb hxa
  obtain ⟨b0, b1, b2, b3, b4, b5, b6⟩ := l
  obtain ⟨xk, xl, xs, xn, dir⟩ := x
  simp only [Lay.val, spV, Ind.val, indCells] at WR HPI HRX HWH ⊢
  have hz : (w.alloc (.cells #[.int .i64 b0, .int .i64 b1, .int .i64 b2, .int .i64 b3, .int .i64 b4, .int .i64 b5, .int .i64 b6] 39)).heap.size = w.heap.size + 1 := by simp
  have hrI := heap_alloc_new (w.alloc (.cells #[.int .i64 b0, .int .i64 b1, .int .i64 b2, .int .i64 b3, .int .i64 b4, .int .i64 b5, .int .i64 b6] 39)) (.cells #[.int .u8 (xk : Int), .int .i64 xl, .int .i64 xs, .slice xa dir.length xc, .int .i64 xn] 54)
  rw [hz] at hrI
  have hrL := (Below.heap_alloc (w.alloc (.cells #[.int .i64 b0, .int .i64 b1, .int .i64 b2, .int .i64 b3, .int .i64 b4, .int .i64 b5, .int .i64 b6] 39)) (.cells #[.int .u8 (xk : Int), .int .i64 xl, .int .i64 xs, .slice xa dir.length xc, .int .i64 xn] 54) w.heap.size (by simp)).trans (heap_alloc_new w (.cells #[.int .i64 b0, .int .i64 b1, .int .i64 b2, .int .i64 b3, .int .i64 b4, .int .i64 b5, .int .i64 b6] 39))
  have hb2 : Below w.heap.size w ((w.alloc (.cells #[.int .i64 b0, .int .i64 b1, .int .i64 b2, .int .i64 b3, .int .i64 b4, .int .i64 b5, .int .i64 b6] 39)).alloc (.cells #[.int .u8 (xk : Int), .int .i64 xl, .int .i64 xs, .slice xa dir.length xc, .int .i64 xn] 54)) := ((Below.refl _ _).alloc (Nat.le_refl _) _).alloc (by simp) _
  have HB2 := hid hb2; have HRI := hid hrI; have HRL := hid hrL
  clear hb2 hz hrI hrL
  go_enter Try.func26, Try.ntmps26
  go_wp2_with fail
  refine (WR _).mono ?_
  rintro e w1 ⟨rfl, b1'⟩
  have hb := HB2.out.trans (b1'.mono HB2.out.size)
  obtain ⟨y0, y1, y2, y3, y4⟩ := five5 ((b1'.block _ (heap_in HRI.out)).trans HRI.out)
  have hrl1 := (b1'.block _ (heap_in HRL.out)).trans HRL.out
  have PI := HPI.out w1 (HRX.out.below hb)
  have HB := hid hb; have HRL1 := hid hrl1
  clear WR b1' hb HPI hrl1
  go_wp2_with fail
  refine PI.mono ?_
  rintro e w2 ⟨A, c', rfl, ho, b2'⟩
  have hb3 := HB.out.trans (b2'.mono HB.out.size)
  obtain ⟨z0, z1, z2, z3, z4, z5, z6⟩ := cells7b ((b2'.block _ (heap_in HRL1.out)).trans HRL1.out)
  have WH := HWH.out w2 (H.out.below hb3)
  have HB3 := hid hb3; have HO := hid ho
  have hzb := HB.out.size
  clear PI b2' ho y0 y1 y2 y3 y4 hb3 HWH
  go_wp2_with fail
  refine WH.mono ?_
  rintro e w3 ⟨⟨g0, N, c, rfl, hN, hob3⟩, hi3, hk3⟩
  clear WH z0 z1 z2 z3 z4 z5 z6
  have hkw := (Kpt.of_below HB3.out).trans hk3
  have hfp := HFP.out
  by_cases hE0 : E = 0
  · as_aux_lemma =>
    subst hE0
    rw [if_pos rfl] at hfp
    obtain ⟨rfl, n, at_, rfl, rfl, hn, hat⟩ := HWD.out rfl
    have h4096 : blk.length = 4096 := by
      rcases HBLEN.out with h | h
      · exact h.2
      · exact absurd rfl h.1
    rw [h4096] at hN
    subst hN
    obtain ⟨g, rfl, hg1, hg2⟩ := own_adrP hob3 (by intro e; rw [e] at h4096; simp at h4096)
    have hcap := hob3.cap
    rw [h4096] at hcap
    obtain ⟨hcap1, hcap2⟩ := hcap
    obtain ⟨cur, hcur, hcl, hct⟩ := hob3.rowS
    have hz3 := hk3.size
    have hoA : RdB w3 A ob := by
      have h1 := HO.out
      have h2 : OwnB w1.heap.size w3 A c' ob := own_kpt h1 hk3 (fun b hb hS => by
        have h3 := own_base h1 b hb
        have h4 := (H.out.blocks hS).2.1
        omega)
      exact h2.rd
    have t4 : ¬ c = at_ := by omega
    have hgS : ¬ S g := fun hs => by have := (H.out.blocks hs).2.1; have := HB3.out.size; omega
    simp only [Int.toNat_natCast] at hfp
    have HFP2 := hid hfp; have HI3 := hid hi3; have HKW := hid hkw; have HOB := hid hob3; have HCUR := hid hcur; have HRA := hid hoA; have HN := hid hn; have HGS := hid hgS; have HL4 := hid h4096
    clear hfp hi3 hkw hob3 hcur hoA hn hgS h4096 hct HWD HBLEN HFP
    obtain ⟨w4, hw4⟩ : ∃ w4, w4 = w3.setRow g (splice cur at_ (B8s ob)).toArray := ⟨_, rfl⟩
    have hcopy := fun ty => run_copyB w3 ty g at_ (4096 - at_) (c - at_) A 64 c' ob HPL.out.symm (by decide) (by omega) HRA.out cur HCUR.out (by omega)
    have k4 := kpt_setRow w3 g (splice cur at_ (B8s ob)).toArray
    have h4' := setRow_heap w3 g _ (splice cur at_ (B8s ob)).toArray _ _ HCUR.out
    rw [← hw4] at k4 h4'
    simp only [← hw4] at hcopy
    have hob4 := HOB.out.copiedS HCUR.out (by rw [HPL.out, HL4.out]; omega) h4'
    have hgb := HOB.out.lt
    have hi4 : IsPl QT base w4 P S d.tick := (HI3.out.kptQ k4 (fun b hb e => by have := HB3.out.size; omega) (fun b hb e => HGS.out (e ▸ hb))).monoQ (fun _ _ => trivial)
    have hk4 := HKW.out.upP k4 (fun b hb => .inr (by have := HB3.out.size; omega))
    have hl4 : (splice blk at_ ob).length = 4096 := by rw [splice_lengthS _ _ _ (by rw [HPL.out, HL4.out]; omega), HL4.out]
    have WR2 := Write_is w4 P hi4 (by omega) n (by rw [htick.out.1]; exact HN.out) (some ⟨g, 0, none⟩) c _ hl4 hob4.rd (by rw [htick.out.2.2]; omega) (fun b hb e => by
      have h1 := HI3.out.lt
      have h2 := HI3.out.inS
      simp only [Option.map_some, Option.some.injEq] at hb
      subst hb
      rw [e] at HGS
      exact HGS.out h2)
    have HK4 := hid hk4
    clear k4 h4' hob4 hgb hi4 hk4 hw4
    go_wp2_with fail
    refine WR2.mono ?_
    rintro e w5 ⟨rfl, S5, i5, k5, h5⟩
    have hz4 := HK4.out.size
    have HI5 := hid i5; have HK5 := hid (HK4.out.trans k5); have HS5 := hid (show ∀ b, S5 b → S b ∨ w.heap.size ≤ b from fun b hb => (h5 b hb).imp id (fun h => by omega))
    clear WR2 i5 k5 h5
    cases hsp : d.tick.spent with
    | true => as_aux_lemma =>
      have hi := HI5.out
      rw [hsp] at hi
      simp only [if_true] at hi ⊢
      have hr := HFP2.out
      rw [hsp, if_pos rfl] at hr
      have HI := hid hi; have HR2 := hid hr
      clear hi hsp hr
      go_wp2
      go_ret
      rw [HR2.out]
      exact ⟨rfl, S5, HI.out, HK5.out, HS5.out⟩
    | false => as_aux_lemma =>
      have hi := HI5.out
      rw [hsp] at hi
      simp only [Bool.false_eq_true, if_false] at hi ⊢
      have hr := HFP2.out
      rw [hsp, if_neg (by decide)] at hr
      have HI := hid hi; have HR2 := hid hr
      clear hi hsp hr
      go_wp2
      go_ret
      rw [HR2.out]
      exact ⟨rfl, S5, HI.out, HK5.out, HS5.out⟩
  · have hb : (E != 0) = true := by simpa using hE0
    rw [if_neg hE0] at hfp
    have HI := hid hi3; have HK := hid hkw; have HR := hid hfp
    clear hfp hi3 hkw hk3 hob3 hN hE0
    go_wp2
    go_ret
    rw [HR.out]
    exact ⟨rfl, S, HI.out.monoQ (fun _ _ => trivial), HK.out, fun b hb => .inl hb⟩
end Go.Proofs.Ytahlhdhljjpeoaa
