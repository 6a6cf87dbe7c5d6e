/- Texts joined: Once, Frame10. -/
import Derived.Test.YtahlhdhljjpeoaaGBitsOnce2
import Derived.Test.YtahlhdhljjpeoaaGBitsOnce6
import Derived.Test.YtahlhdhljjpeoaaGBitsOnce20
/- BitsOnce (printed by gen24o.py). -/
namespace Go.Proofs.Ytahlhdhljjpeoaa
open Go.RowKit
set_option maxHeartbeats 3200000
set_option maxRecDepth 100000
set_option linter.unusedVariables false
set_option linter.unusedSimpArgs false

def I64v (z : Int) : Value := .int .i64 z
theorem boT (n : Nat) : (madeCells #[.bool false] n).toList = BvL (List.replicate n false) := madeBoL n
theorem u64_tu : TU (List.replicate 64 false) u64 := ⟨by simp, by decide, fun j hj => by rw [u64, emu_at _ _ _ _ (by omega)]; exact decide_eq_true hj, fun j h1 h2 => by
  rw [u64, emu_at _ _ _ _ (by omega), decide_eq_false (by omega), List.getD_eq_getElem?_getD, List.getElem?_replicate, if_pos h2]; rfl⟩
/-- Alloc, over a space of 64 blocks. -/
theorem once_alc {d : Pl} {u : List Bool} {k : Nat} (s : Sp d L64 u (fun _ => zeros 4096)) (n : Dn d 64 k) (m : Nat) (h1 : 1 ≤ m) (h2 : m ≤ 12) :
    ∃ d' u' o E, alcP d L64 m = (d', o, E) ∧ Dn d' 64 (k + 1) ∧ Sp d' L64 u' (fun _ => zeros 4096) ∧ ((E = 230 ∧ o = [] ∧ u' = u ∧ freeC u < m) ∨ (E = 0 ∧ Takes u o u' ∧ sumC o = m ∧ ((∃ h ∈ holesG 0 0 u, m ≤ h.2) → o.length ≤ 1))) := by
  have hl := s.bd
  rcases s.alc n.ends m h1 (by omega) with ⟨e1, e2⟩ | ⟨u', o, e1, e2, e3⟩
  · exact ⟨d, u, [], 230, e2, n.mono (by omega), s, .inl ⟨rfl, rfl, rfl, allocGo_none _ _ _ _ (Nat.le_refl _) e1⟩⟩
  · obtain ⟨new, f1, f2, f3, f4⟩ := allocGo_some m u m [] u' o (Nat.le_refl _) e1
    rw [List.nil_append] at f1
    subst f1
    exact ⟨_, u', o, 0, e2, n.put _ _, e3, .inr ⟨rfl, f2, f3, f4⟩⟩
theorem once_fre {d : Pl} {u : List Bool} {k : Nat} (s : Sp d L64 u (fun _ => zeros 4096)) (n : Dn d 64 k) (m : Nat) (h1 : 23 ≤ m) (h2 : m < 64) :
    ∃ d' E, freP d L64 m 1 = (d', E) ∧ Dn d' 64 (k + 1) ∧ ((u.getD m false = true ∧ E = 0 ∧ Sp d' L64 (setU u m 1 false) (fun _ => zeros 4096)) ∨ (u.getD m false = false ∧ E = 30 ∧ Sp d' L64 u (fun _ => zeros 4096))) := by
  have hl := s.bd
  have hlu : u.length = 64 := by rw [s.len, n.len]
  have hb := frB_one u m (by omega)
  rcases s.fre n.ends m 1 (by show 23 ≤ m; exact h1) (by omega) (by omega) with ⟨e1, e2⟩ | ⟨e1, e2, e3⟩
  · rw [e1] at hb
    exact ⟨d, 30, e2, n.mono (by omega), .inr ⟨by simpa using hb.symm, rfl, s⟩⟩
  · rw [e1] at hb
    exact ⟨_, 0, e2, n.put _ _, .inl ⟨by simpa using hb.symm, rfl, e3⟩⟩
/-- A mark is stored. -/
theorem storeT {w0 w : World} {P : Nat} {S : Nat → Prop} {d : Pl} {bL gT n c : Nat} {cs : Array Value} {T : List Bool} (h : IsPl QT w0.heap.size w P S d) (b : Below w0.heap.size w0 w) (hL : w.heap[bL]? = some (.cells cs 39 (0, 0)))
    (hT : w.ownsRow gT 4 1 (.slice (some ⟨gT, 0, none⟩) n c) n (BvL T)) (hg : w0.heap.size ≤ gT) (j : Nat) (v : Bool) :
    IsPl QT w0.heap.size (w.setCell ⟨gT, j, none⟩ (.bool v)) P S d ∧ Below w0.heap.size w0 (w.setCell ⟨gT, j, none⟩ (.bool v)) ∧ (w.setCell ⟨gT, j, none⟩ (.bool v)).heap[bL]? = some (.cells cs 39 (0, 0)) ∧ (w.setCell ⟨gT, j, none⟩ (.bool v)).ownsRow gT 4 1 (.slice (some ⟨gT, 0, none⟩) n c) n (BvL (T.set j v)) ∧ Kpt (fun b => b = gT) w (w.setCell ⟨gT, j, none⟩ (.bool v)) := by
  obtain ⟨_, _, ct, hr⟩ := own_row hT (b := gT) rfl
  have k := Kpt.setCell (Kpt.refl (fun b => b = gT) w) (p := ⟨gT, j, none⟩) rfl (.bool v)
  refine ⟨h.kpt k (by rintro x rfl; exact row_not_u8 hr (by decide)) (fun x hx e => h.notRow (b := gT) hr (by decide) (by decide) (by decide) (e ▸ hx)), b.setCell (p := ⟨gT, j, none⟩) hg _, (k.block _ (heap_in hL) (fun e => ?_)).trans hL, ?_, k⟩
  · rw [e, hr] at hL
    simp only [Option.some.injEq, Obj.cells.injEq] at hL
    exact absurd hL.2.1 (by decide)
  · have st := (World.ownsRow.stored hT j (.bool v)).1
    have e : (BvL T).set j (.bool v) = BvL (T.set j v) := by simp only [BvL, List.map_set]
    rw [e] at st
    exact st
theorem own_kptT {w w' : World} {gT b n size : Nat} {e : TypeId} {v : Value} {xs : List Value} {cs : Array Value} (h : w.ownsRow b e size v n xs) (k : Kpt (fun b => b = gT) w w') (hr : w.heap[gT]? = some (.cells cs 4 (0, 0))) (he : e ≠ 4) : w'.ownsRow b e size v n xs :=
  own_kpt h k (fun x hx e' => by
    obtain ⟨_, _, cs', hr'⟩ := own_row h hx
    rw [e', hr] at hr'
    simp only [Option.some.injEq, Obj.cells.injEq] at hr'
    exact he hr'.2.1.symm)
theorem sumC_append (a b : List (Nat × Nat)) : sumC (a ++ b) = sumC a + sumC b := by simp [sumC]
theorem sumC_take (o : List (Nat × Nat)) (j : Nat) : sumC (o.take j) ≤ sumC o := by
  have := sumC_append (o.take j) (o.drop j)
  rw [List.take_append_drop] at this
  omega
theorem takes_len : ∀ (u : List Bool) (o : List (Nat × Nat)) (u' : List Bool), Takes u o u' → o.length ≤ sumC o
  | u, [], u', h => by simp
  | u, x :: xs, u', h => by
    have h1 := takes_len _ xs u' h.2
    have h2 := h.1.1
    simp only [sumC, List.length_cons, List.map_cons, List.sum_cons] at *
    omega
theorem setU_one (u : List Bool) (k : Nat) (v : Bool) : setU u k 1 v = u.set k v := by
  have := setU_succ u k 0 v
  rw [setU_zero, Nat.add_zero] at this
  exact this.symm
theorem Once_any (w : World) (a : Option Addr) (N c : Nat) (zs : List Int) (hN : N = zs.length) (hl : zs.length ≤ 140737488351232) (hr : RdV w a (zs.map I64v)) (hz : ∀ z ∈ zs, -9223372036854775808 ≤ z ∧ z ≤ 9223372036854775807) :
    Calls Try.prog 4 #[.slice a N c] w fun e w' => e = .returned (.bool true) ∧ Below w.heap.size w w' := by
  have AW := fun W => awake24_any W
  have SPC := fun W => space_any W 64 (by omega) (by omega)
  simp only [show ((64 : Nat) : Int) = 64 from rfl, ofL64, L64, Lay.val] at SPC
  have hmk := fun W => run_mkBo 64 (by omega) W
  simp only [show ((64 : Nat) : Int) = 64 from rfl] at hmk
  have PK := fun (W : World) (x : Int) (hx : -9223372036854775808 ≤ x ∧ x ≤ 9223372036854775807) => Pick_any W x 1000003 hx (by omega) (by omega)
  simp only [show ((1000003 : Nat) : Int) = 1000003 from rfl] at PK
  have HAW := hid AW; have HPK := hid PK; have HZ := hid hz; have HR := hid hr
  clear AW PK hz hr
  go_enter Try.func4, Try.ntmps4
  go_wp2_with fail
  refine (SPC _).mono ?_
  rintro e v0 ⟨P, S0, rfl, i, b⟩
  clear SPC
  have bL : Below v0.heap.size v0 (v0.alloc (.cells #[.int .i64 64, .int .i64 2, .int .i64 16, .int .i64 18, .int .i64 19, .int .i64 4, .int .i64 23] 39)) := (Below.refl _ _).alloc (Nat.le_refl _) _
  have rL := heap_alloc_new v0 (.cells #[.int .i64 64, .int .i64 2, .int .i64 16, .int .i64 18, .int .i64 19, .int .i64 4, .int .i64 23] 39)
  have bT : Below (v0.alloc (.cells #[.int .i64 64, .int .i64 2, .int .i64 16, .int .i64 18, .int .i64 19, .int .i64 4, .int .i64 23] 39)).heap.size (v0.alloc (.cells #[.int .i64 64, .int .i64 2, .int .i64 16, .int .i64 18, .int .i64 19, .int .i64 4, .int .i64 23] 39)) ((v0.alloc (.cells #[.int .i64 64, .int .i64 2, .int .i64 16, .int .i64 18, .int .i64 19, .int .i64 4, .int .i64 23] 39)).alloc (.cells (madeCells #[.bool false] 64) 4)) := (Below.refl _ _).alloc (Nat.le_refl _) _
  have hzL : (v0.alloc (.cells #[.int .i64 64, .int .i64 2, .int .i64 16, .int .i64 18, .int .i64 19, .int .i64 4, .int .i64 23] 39)).heap.size = v0.heap.size + 1 := by simp
  have oT : ((v0.alloc (.cells #[.int .i64 64, .int .i64 2, .int .i64 16, .int .i64 18, .int .i64 19, .int .i64 4, .int .i64 23] 39)).alloc (.cells (madeCells #[.bool false] 64) 4)).ownsRow (v0.alloc (.cells #[.int .i64 64, .int .i64 2, .int .i64 16, .int .i64 18, .int .i64 19, .int .i64 4, .int .i64 23] 39)).heap.size 4 1 (.slice (some ⟨(v0.alloc (.cells #[.int .i64 64, .int .i64 2, .int .i64 16, .int .i64 18, .int .i64 19, .int .i64 4, .int .i64 23] 39)).heap.size, 0, none⟩) 64 64) 64 (BvL (List.replicate 64 false)) := by
    have h := World.ownsRow_lit (base := (v0.alloc (.cells #[.int .i64 64, .int .i64 2, .int .i64 16, .int .i64 18, .int .i64 19, .int .i64 4, .int .i64 23] 39)).heap.size) (e := 4) (size := 1) (v0.alloc (.cells #[.int .i64 64, .int .i64 2, .int .i64 16, .int .i64 18, .int .i64 19, .int .i64 4, .int .i64 23] 39)) (madeCells #[.bool false] 64) 64 (Nat.le_refl _) (by decide) (by simp [size_madeCells])
    rw [madeBoL] at h
    exact h
  have i2 := (i.below bL).below bT
  have b2 := (b.trans (bL.mono b.size)).trans (bT.mono (b.trans (bL.mono b.size)).size)
  have rL2 := (bT.block _ (heap_in rL)).trans rL
  have hbv : w.heap.size ≤ v0.heap.size := b.size
  rw [hzL] at oT
  have I0 := hid i2; have B0 := hid b2; have L0 := hid rL2; have T0 := hid oT
  clear i b bL rL bT oT i2 b2 rL2 hzL
  go_wp2_with fail
  obtain ⟨gT, hgT⟩ : ∃ gT, gT = v0.heap.size + 1 := ⟨_, rfl⟩
  (try simp only [World.size_alloc])
  rw [← hgT] at T0 ⊢
  have HGT := hid hgT
  clear hmk hgT
  go_loopw [7] (fun vi wr => ∃ (k : Nat) (T u : List Bool) (d : Pl) (S : Nat → Prop), k ≤ 60 ∧ vi = .int .i64 ((k : Nat) : Int) ∧ TU T u ∧ Sp d L64 u (fun _ => zeros 4096) ∧ Dn d 64 (5 + k) ∧ IsPl QT w.heap.size wr P S d ∧ Below w.heap.size w wr ∧
    wr.heap[v0.heap.size]? = some (.cells #[.int .i64 64, .int .i64 2, .int .i64 16, .int .i64 18, .int .i64 19, .int .i64 4, .int .i64 23] 39 (0, 0)) ∧ wr.ownsRow gT 4 1 (.slice (some ⟨gT, 0, none⟩) 64 64) 64 (BvL T)) (fun vi _ => 60 - (intOf vi).toNat)
  case atStart => exact ⟨0, List.replicate 64 false, u64, spD 64, S0, by omega, rfl, u64_tu, sp64, dn64, I0.out, B0.out, L0.out, T0.out⟩
  case round => as_aux_lemma =>
    obtain ⟨wo, rfl⟩ : ∃ wo : World, wo = wr := ⟨_, rfl⟩
    obtain ⟨k, T, u, d, S, hk, rfl, hTU, hSp, hDn, hi, hb, hL, hT⟩ := hrel
    clear I0 B0 L0 T0
    by_cases hlt : (k : Int) < (N : Int) ∧ k < 60
    · as_aux_lemma =>
      obtain ⟨hlt1, hlt2⟩ := hlt
      have hkI : (k : Int) < 60 := by omega
      obtain ⟨z, hzk⟩ : ∃ z, zs[k]? = some z := ⟨zs[k]'(by omega), List.getElem?_eq_getElem _⟩
      have hzr := HZ.out z (List.mem_of_getElem? hzk)
      obtain ⟨ab, ao, rfl, hc⟩ := (HR.out.below hb) (by intro e; have h1 : (zs.map I64v)[k]? = some (I64v z) := by rw [List.getElem?_map, hzk]; rfl
                                                        rw [e] at h1; simp at h1)
      have m0 := hc k (.int .i64 z) (by rw [List.getElem?_map, hzk]; rfl)
      have PK := HPK.out wo z hzr
      have HTU := hid hTU; have HSP := hid hSp; have HDN := hid hDn; have HI := hid hi; have HB := hid hb; have HL := hid hL; have HT := hid hT
      clear hc hTU hSp hDn hi hb hL hT hzk
      go_wp2_with fail
      refine PK.mono ?_
      rintro e w' ⟨⟨p, hp, rfl⟩, rfl⟩
      clear PK m0
      go_wp2_with fail
      go_loopw [9, 10, 11, 12] (fun v9 v10 v11 v12 wr => ∃ m : Nat, m ≤ 41 ∧ v12 = .int .i64 ((23 + m : Nat) : Int) ∧ v9 = .int .i64 (((scn T m).1 : Nat) : Int) ∧ v10 = .int .i64 (((scn T m).2.1 : Nat) : Int) ∧ v11 = .int .i64 (((scn T m).2.2 : Nat) : Int) ∧ wo = wr) (fun _ _ _ v12 _ => 64 - (intOf v12).toNat)
      case atStart => exact ⟨0, by omega, rfl, rfl, rfl, rfl, rfl⟩
      case round => as_aux_lemma =>
        obtain ⟨m, hm, rfl, rfl, rfl, rfl, rfl⟩ := hrel
        by_cases hm41 : m < 41
        · as_aux_lemma =>
          have hm64 : ((23 + m : Nat) : Int) < 64 := by omega
          obtain ⟨x, hx⟩ : ∃ x, T[23 + m]? = some x := ⟨T[23 + m]'(by have := HTU.out.lt; omega), List.getElem?_eq_getElem _⟩
          have cl := World.ownsRow.cellAt HT.out (23 + m) (by omega)
          rw [show (BvL T)[23 + m]? = some (.bool x) by simp [BvL, hx]] at cl
          have hx2 : T.getD (23 + m) false = x := by rw [List.getD_eq_getElem?_getD, hx]; rfl
          have hsc := scn_succ T m
          rw [hx2] at hsc
          obtain ⟨l1, l2, l3⟩ := scn_le T m
          generalize scn T m = q at *
          obtain ⟨q1, q2, q3⟩ := q
          dsimp only at l1 l2 l3 hsc ⊢
          cases x with
          | true =>
            rw [if_pos rfl] at hsc
            have HSC := hid hsc
            clear hsc hx hx2
            go_wp2_with fail
            go_roundw
            case rel => exact ⟨m + 1, by omega, by go_num, by rw [HSC.out], by rw [HSC.out]; rfl, by rw [HSC.out], by first | rfl | trivial⟩
            case measure => simp [intOf]; omega
          | false =>
            rw [if_neg (by decide)] at hsc
            have hmx : (if (q3 : Int) < (q2 : Int) + 1 then (q2 : Int) + 1 else (q3 : Int)) = ((max q3 (q2 + 1) : Nat) : Int) := by split <;> omega
            have HSC := hid hsc
            clear hsc hx hx2
            go_wp2_with fail
            go_roundw
            case rel => exact ⟨m + 1, by omega, by go_num, by rw [HSC.out]; go_num, by rw [HSC.out]; go_num, by rw [HSC.out], by first | rfl | trivial⟩
            case measure => simp [intOf]; omega
        · as_aux_lemma =>
          obtain rfl : m = 41 := by omega
          have hfr := scn_freeC HTU.out
          obtain ⟨l1, l2, l3⟩ := scn_le T 41
          have hle := Left_is wo P HI.out HDN.out.left L64 HDN.out.bl
          rw [HSP.out.lefZ HDN.out.ends] at hle
          simp only [spV, Lay.val, L64] at hle
          have hlong := fun {k : Nat} (h1 : 1 ≤ k) (h2 : k ≤ (scn T 41).2.2) => scn_hole HTU.out h1 h2
          have HLONG := hid (show ∀ k, 1 ≤ k → k ≤ (scn T 41).2.2 → ∃ x ∈ holesG 0 0 u, k ≤ x.2 from fun k h1 h2 => hlong h1 h2)
          rw [← hfr] at hle
          have HFR := hid hfr
          generalize scn T 41 = q at *
          obtain ⟨q1, q2, q3⟩ := q
          dsimp only at l1 l2 l3 hle
          obtain ⟨y0, y1, y2, y3, y4, y5, y6⟩ := cells7b HL.out
          clear hlong hfr
          go_wp2_with fail
          refine hle.mono ?_
          rintro e w1 ⟨rfl, i1, kk⟩
          clear hle y0 y1 y2 y3 y4 y5 y6
          have HB1 := hid (below_kptS HI.out HB.out kk); have HL1 := hid (row_kptS HI.out HL.out kk (by decide) (by decide) (by decide)); have HT1 := hid (own_kptS HI.out HT.out kk (by decide) (by decide) (by decide)); have HI1 := hid i1
          clear i1 kk HB HL HT HI
          have hqq : ((q1 : Int) != (q1 : Int)) = false := by simp
          by_cases hp3 : p % 3 = 0
          · as_aux_lemma =>
            obtain ⟨m, hm⟩ : ∃ m, m = p / 3 := ⟨_, rfl⟩
            obtain ⟨s, hs⟩ : ∃ s, s = m % 41 := ⟨_, rfl⟩
            have hs41 : s < 41 := by omega
            have hmb : m ≤ 400000 := by omega
            have hmt : (Int.tmod (p : Int) 3 == 0) = true := by
              rw [Int.tmod_eq_emod_of_nonneg (by omega)]; simp; omega
            have hq1 : Int.tdiv (p : Int) 3 = (m : Int) := by rw [Int.tdiv_eq_ediv_of_nonneg (by omega), hm]; rfl
            have hq2 : Int.tmod (m : Int) 41 = (s : Int) := by rw [Int.tmod_eq_emod_of_nonneg (by omega), hs]; rfl
            obtain ⟨k0, hk0⟩ : ∃ k0, k0 = 23 + s := ⟨_, rfl⟩
            have hk0I : (23 : Int) + (s : Int) = (k0 : Int) := by omega
            have hk64 : k0 < 64 := by omega
            have hk64I : (k0 : Int) < 64 := by omega
            have hk23 : 23 ≤ k0 := by omega
            obtain ⟨d', E, e1, hDn', hcase⟩ := once_fre HSP.out HDN.out k0 hk23 hk64
            obtain ⟨x, hx⟩ : ∃ x, T[k0]? = some x := ⟨T[k0]'(by have := HTU.out.lt; omega), List.getElem?_eq_getElem _⟩
            have hx2 : T.getD k0 false = x := by rw [List.getD_eq_getElem?_getD, hx]; rfl
            have hux := HTU.out.eq k0 hk23 hk64
            rw [hx2] at hux
            rw [← hux] at hcase
            have hcell : (BvL T)[k0]? = some (.bool x) := by simp [BvL, hx]
            have iD := HI1.out.below (below_dr w1)
            have lD : w1.drew.heap[v0.heap.size]? = some (.cells #[.int .i64 64, .int .i64 2, .int .i64 16, .int .i64 18, .int .i64 19, .int .i64 4, .int .i64 23] 39 (0, 0)) := HL1.out
            have tD := own_below HT1.out (below_dr w1)
            have bD := HB1.out.trans ((below_dr w1).mono HB1.out.size)
            have FR := Free_is w1.drew P iD HDN.out.left (Nat.le_trans HDN.out.did (by omega)) L64 HDN.out.bl (k0 : Int) 1 (by omega) (by decide)
            rw [e1] at FR
            simp only [spV, Lay.val, L64] at FR
            have cl := World.ownsRow.cellAt tD k0 (by omega)
            rw [hcell] at cl
            obtain ⟨sX0, sX1, sX2, sX3, sX4, sX5, sX6⟩ := cells7b lD
            have sX := And.intro sX0 (And.intro sX1 (And.intro sX2 (And.intro sX3 (And.intro sX4 (And.intro sX5 (And.intro sX6 cl))))))
            have HCELL := hid hcell; have HTS := hid (show x = false → T.set k0 false = T from fun e => set_same _ _ _ (by rw [hx, e]))
            have HD := hid hDn'; have HC := hid hcase
            clear HL1 HT1 HB1 HI1 hx hx2 hux hm hs e1 hDn' hcase hk0 sX0 sX1 sX2 sX3 sX4 sX5 sX6 cl
            clear hcell
            have hcell := HCELL.out
            have HX := hid sX
            clear sX
            have HFR := hid FR
            clear FR
            go_wp2_with fail
            have FR := HFR.out
            have sX := HX.out
            clear HX HFR
            refine wp_region_held_drew (S := fun W1 => W1.cell? ⟨v0.heap.size, 0, none⟩ = some (.int .i64 64) ∧ W1.cell? ⟨v0.heap.size, 1, none⟩ = some (.int .i64 2) ∧ W1.cell? ⟨v0.heap.size, 2, none⟩ = some (.int .i64 16) ∧ W1.cell? ⟨v0.heap.size, 3, none⟩ = some (.int .i64 18) ∧ W1.cell? ⟨v0.heap.size, 4, none⟩ = some (.int .i64 19) ∧ W1.cell? ⟨v0.heap.size, 5, none⟩ = some (.int .i64 4) ∧ W1.cell? ⟨v0.heap.size, 6, none⟩ = some (.int .i64 23) ∧ W1.cell? ⟨gT, k0, none⟩ = some (.bool x)) (by kernel_rfl) (by exact sX) (fun hHeld => ?_)
            refine wpAnyH_take (i := 0) (oi := ?o0z1) (v := ?v0z1) ?hi0z1 (by kernel_rfl) (by kernel_rfl) ?hr0z1 ?hQ0z1 ?hy0z1 hHeld ?r0z1
            case hi0z1 => (simp only [List.getElem?_toArray, List.getElem?_cons_zero, List.getElem?_cons_succ]; rfl)
            case hr0z1 => kernel_rfl
            case hQ0z1 => exact fun _ _ _ h => h
            case hy0z1 => (refine Or.inl ⟨by rfl, ?_⟩; intro w hSw; (try dsimp only at hSw); go_simp; try with_reducible rfl)
            try simp only [Act.put, List.setIfInBounds_toArray, List.set_cons_zero, List.set_cons_succ]
            refine wpAnyH_take (i := 1) (oi := ?o1z1) (v := ?v1z1) ?hi1z1 (by kernel_rfl) (by kernel_rfl) ?hr1z1 ?hQ1z1 ?hy1z1 hHeld ?r1z1
            case hi1z1 => (simp only [List.getElem?_toArray, List.getElem?_cons_zero, List.getElem?_cons_succ]; rfl)
            case hr1z1 => kernel_rfl
            case hQ1z1 => exact fun _ _ _ h => h
            case hy1z1 => (refine Or.inl ⟨by rfl, ?_⟩; intro w hSw; (try dsimp only at hSw); go_simp; try with_reducible rfl)
            try simp only [Act.put, List.setIfInBounds_toArray, List.set_cons_zero, List.set_cons_succ]
            refine wpAnyH_take (i := 2) (oi := ?o2z1) (v := ?v2z1) ?hi2z1 (by kernel_rfl) (by kernel_rfl) ?hr2z1 ?hQ2z1 ?hy2z1 hHeld ?r2z1
            case hi2z1 => (simp only [List.getElem?_toArray, List.getElem?_cons_zero, List.getElem?_cons_succ]; rfl)
            case hr2z1 => kernel_rfl
            case hQ2z1 => exact fun _ _ _ h => h
            case hy2z1 => (refine Or.inl ⟨by rfl, ?_⟩; intro w hSw; (try dsimp only at hSw); go_simp; try with_reducible rfl)
            try simp only [Act.put, List.setIfInBounds_toArray, List.set_cons_zero, List.set_cons_succ]
            refine wpAnyH_take (i := 3) (oi := ?o3z1) (v := ?v3z1) ?hi3z1 (by kernel_rfl) (by kernel_rfl) ?hr3z1 ?hQ3z1 ?hy3z1 hHeld ?r3z1
            case hi3z1 => (simp only [List.getElem?_toArray, List.getElem?_cons_zero, List.getElem?_cons_succ]; rfl)
            case hr3z1 => kernel_rfl
            case hQ3z1 => exact fun _ _ _ h => h
            case hy3z1 => (refine Or.inl ⟨by rfl, ?_⟩; intro w hSw; (try dsimp only at hSw); go_simp; try with_reducible rfl)
            try simp only [Act.put, List.setIfInBounds_toArray, List.set_cons_zero, List.set_cons_succ]
            refine wpAnyH_take (i := 6) (oi := ?o6z1) (v := ?v6z1) ?hi6z1 (by kernel_rfl) (by kernel_rfl) ?hr6z1 ?hQ6z1 ?hy6z1 hHeld ?r6z1
            case hi6z1 => (simp only [List.getElem?_toArray, List.getElem?_cons_zero, List.getElem?_cons_succ]; rfl)
            case hr6z1 => kernel_rfl
            case hQ6z1 => exact fun _ _ _ h => h
            case hy6z1 => (refine Or.inl ⟨by rfl, ?_⟩; intro w hSw; (try dsimp only at hSw); go_simp; try with_reducible rfl)
            try simp only [Act.put, List.setIfInBounds_toArray, List.set_cons_zero, List.set_cons_succ]
            refine wpAnyH_take (i := 7) (oi := ?o7z1) (v := ?v7z1) ?hi7z1 (by kernel_rfl) (by kernel_rfl) ?hr7z1 ?hQ7z1 ?hy7z1 hHeld ?r7z1
            case hi7z1 => (simp only [List.getElem?_toArray, List.getElem?_cons_zero, List.getElem?_cons_succ]; rfl)
            case hr7z1 => kernel_rfl
            case hQ7z1 => exact fun _ _ _ h => h
            case hy7z1 => (refine Or.inl ⟨by rfl, ?_⟩; intro w hSw; (try dsimp only at hSw); go_simp; try with_reducible rfl)
            try simp only [Act.put, List.setIfInBounds_toArray, List.set_cons_zero, List.set_cons_succ]
            refine wpAnyH_take (i := 8) (oi := ?o8z1) (v := ?v8z1) ?hi8z1 (by kernel_rfl) (by kernel_rfl) ?hr8z1 ?hQ8z1 ?hy8z1 hHeld ?r8z1
            case hi8z1 => (simp only [List.getElem?_toArray, List.getElem?_cons_zero, List.getElem?_cons_succ]; rfl)
            case hr8z1 => kernel_rfl
            case hQ8z1 => exact fun _ _ _ h => h
            case hy8z1 => (refine Or.inl ⟨by rfl, ?_⟩; intro w hSw; (try dsimp only at hSw); go_simp; try with_reducible rfl)
            try simp only [Act.put, List.setIfInBounds_toArray, List.set_cons_zero, List.set_cons_succ]
            refine wpAnyH_take (i := 9) (oi := ?o9z1) (v := ?v9z1) ?hi9z1 (by kernel_rfl) (by kernel_rfl) ?hr9z1 ?hQ9z1 ?hy9z1 hHeld ?r9z1
            case hi9z1 => (simp only [List.getElem?_toArray, List.getElem?_cons_zero, List.getElem?_cons_succ]; rfl)
            case hr9z1 => kernel_rfl
            case hQ9z1 => exact fun _ _ _ h => h
            case hy9z1 => (refine Or.inl ⟨by rfl, ?_⟩; intro w hSw; (try dsimp only at hSw); go_simp; try with_reducible rfl)
            try simp only [Act.put, List.setIfInBounds_toArray, List.set_cons_zero, List.set_cons_succ]
            refine wpAnyH_ready (rs := [4]) (by kernel_rfl) (by simp) (AllReadyH.cons (o := ?o4z1) ?hi4z1 (fun K hK => ?r4z1) AllReadyH.nil)
            case hi4z1 => (simp only [List.getElem?_toArray, List.getElem?_cons_zero, List.getElem?_cons_succ]; rfl)
            go_simp
            refine FR.mono ?_
            rintro e w2 ⟨rfl, S2, i2, kk, hs⟩
            have L2 := row_kptS iD lD kk (by decide) (by decide) (by decide)
            have T2 := own_kptS iD tD kk (by decide) (by decide) (by decide)
            have B2 := below_kptS iD bD kk
            have cl2 := World.ownsRow.cellAt T2 k0 (by omega)
            rw [hcell] at cl2
            have sY := cells7b L2
            obtain ⟨sY0, sY1, sY2, sY3, sY4, sY5, sY6⟩ := sY
            have I2 := hid i2; have HL2 := hid L2; have HT2 := hid T2; have HB2 := hid B2
            clear FR i2 kk hs L2 T2 B2 iD lD tD bD
            refine hK.out _ _ (by exact ⟨sY0, sY1, sY2, sY3, sY4, sY5, sY6, cl2⟩) (fun hHeld => ?_)
            clear hK K
            try simp only [Act.put, List.setIfInBounds_toArray, List.set_cons_zero, List.set_cons_succ]
            refine wpAnyH_take (i := 5) (oi := ?o5z1) (v := ?v5z1) ?hi5z1 (by kernel_rfl) (by kernel_rfl) ?hr5z1 ?hQ5z1 ?hy5z1 hHeld ?r5z1
            case hi5z1 => (simp only [List.getElem?_toArray, List.getElem?_cons_zero, List.getElem?_cons_succ]; rfl)
            case hr5z1 => kernel_rfl
            case hQ5z1 => exact fun _ _ _ h => h
            case hy5z1 => (refine Or.inl ⟨by rfl, ?_⟩; intro w hSw; (try dsimp only at hSw); go_simp; try with_reducible rfl)
            try simp only [Act.put, List.setIfInBounds_toArray, List.set_cons_zero, List.set_cons_succ]
            refine wpAnyH_take (i := 10) (oi := ?o10z1) (v := ?v10z1) ?hi10z1 (by kernel_rfl) (by kernel_rfl) ?hr10z1 ?hQ10z1 ?hy10z1 hHeld ?r10z1
            case hi10z1 => (simp only [List.getElem?_toArray, List.getElem?_cons_zero, List.getElem?_cons_succ]; rfl)
            case hr10z1 => kernel_rfl
            case hQ10z1 => exact fun _ _ _ h => h
            case hy10z1 => (refine Or.inl ⟨by rfl, ?_⟩; intro w hSw; (try dsimp only at hSw); go_simp; try with_reducible rfl)
            try simp only [Act.put, List.setIfInBounds_toArray, List.set_cons_zero, List.set_cons_succ]
            refine wpAnyH_done (by kernel_rfl) ?_ _
            clear sX sY0 sY1 sY2 sY3 sY4 sY5 sY6
            have hg0 : w.heap.size ≤ gT := by have := HGT.out; omega
            cases x with
            | true =>
              rcases HC.out with ⟨_, rfl, hSp'⟩ | ⟨h, _, _⟩
              · obtain ⟨s1, s2, s3, s4, s5⟩ := storeT I2.out HB2.out HL2.out HT2.out hg0 k0 false
                have f0 := World.ownsRow.frozenAt HT2.out k0
                have HS := hid (And.intro s1 (And.intro s2 (And.intro s3 s4))); have HSP2 := hid hSp'; have HTU2 := hid (HTU.out.setB k0 1 false hk23)
                clear s1 s2 s3 s4 s5 hSp'
                go_wp2_with fail
                go_roundw
                case rel => exact ⟨k + 1, setU T k0 1 false, setU u k0 1 false, d', S2, by omega, by go_num, HTU2.out, HSP2.out, HD.out.mono (by omega), HS.out.1, HS.out.2.1, HS.out.2.2.1, by rw [setU_one]; exact HS.out.2.2.2⟩
                case measure => simp [intOf]; omega
              · cases h
            | false =>
              rcases HC.out with ⟨h, _, _⟩ | ⟨_, rfl, hSp'⟩
              · cases h
              · obtain ⟨s1, s2, s3, s4, s5⟩ := storeT I2.out HB2.out HL2.out HT2.out hg0 k0 false
                rw [HTS.out rfl] at s4
                have f0 := World.ownsRow.frozenAt HT2.out k0
                have HSP2 := hid hSp'; have HS := hid (And.intro s1 (And.intro s2 (And.intro s3 s4)))
                clear hSp' s1 s2 s3 s4 s5
                go_wp2_with fail
                go_roundw
                case rel => exact ⟨k + 1, T, u, d', S2, by omega, by go_num, HTU.out, HSP2.out, HD.out.mono (by omega), HS.out.1, HS.out.2.1, HS.out.2.2.1, HS.out.2.2.2⟩
                case measure => simp [intOf]; omega
          · as_aux_lemma =>
            obtain ⟨m, hm⟩ : ∃ m, m = p / 3 := ⟨_, rfl⟩
            obtain ⟨s, hs⟩ : ∃ s, s = m % 12 := ⟨_, rfl⟩
            have hs12 : s < 12 := by omega
            have hmb : m ≤ 400000 := by omega
            have hmt : (Int.tmod (p : Int) 3 == 0) = false := by
              rw [Int.tmod_eq_emod_of_nonneg (by omega)]; simp; omega
            have hq1 : Int.tdiv (p : Int) 3 = (m : Int) := by rw [Int.tdiv_eq_ediv_of_nonneg (by omega), hm]; rfl
            have hq2 : Int.tmod (m : Int) 12 = (s : Int) := by rw [Int.tmod_eq_emod_of_nonneg (by omega), hs]; rfl
            obtain ⟨k1, hk1⟩ : ∃ k1, k1 = 1 + s := ⟨_, rfl⟩
            have hk1I : (1 : Int) + (s : Int) = (k1 : Int) := by omega
            have hk12 : k1 ≤ 12 := by omega
            have hk11 : 1 ≤ k1 := by omega
            obtain ⟨d', u', o, E, e1, hDn', hSp', hcase⟩ := once_alc HSP.out HDN.out k1 hk11 hk12
            have AL := Alloc_is w1 P HI1.out HDN.out.left (Nat.le_trans HDN.out.did (by omega)) L64 HDN.out.bl (k1 : Int)
            rw [e1] at AL
            simp only [AllocPost, spV, Lay.val, L64] at AL
            obtain ⟨y0, y1, y2, y3, y4, y5, y6⟩ := cells7b HL1.out
            have HD := hid hDn'; have HC := hid hcase; have HSP2 := hid hSp'
            clear hm hs e1 hDn' hcase hk1 hSp'
            go_wp2_with fail
            refine AL.mono ?_
            rintro e w2 ⟨⟨A, No, co, rfl, rfl, hox⟩, S2, i2, kk, hs⟩
            clear AL y0 y1 y2 y3 y4 y5 y6
            have HB2 := hid (below_kptS HI1.out HB1.out kk); have HL2 := hid (row_kptS HI1.out HL1.out kk (by decide) (by decide) (by decide)); have HT2 := hid (own_kptS HI1.out HT1.out kk (by decide) (by decide) (by decide)); have HI2 := hid i2; have HOX := hid hox
            have hz12 := kk.size
            clear i2 kk hs HB1 HL1 HT1 hox
            rcases HC.out with ⟨rfl, rfl, hu', hlt0⟩ | ⟨rfl, htk, hsum, hone⟩
            · as_aux_lemma =>
              have hfl : (q1 : Int) < (k1 : Int) := by have := HFR.out; omega
              have hsp2 := HSP2.out
              rw [hu'] at hsp2
              have HSP3 := hid hsp2
              clear hlt0 hu' hsp2
              go_wp2_with fail
              go_roundw
              case rel => exact ⟨k + 1, T, u, d', S2, by omega, by go_num, HTU.out, HSP3.out, HD.out.mono (by omega), HI2.out, HB2.out, HL2.out, HT2.out⟩
              case measure => simp [intOf]; omega
            · as_aux_lemma =>
              have hcnt := takes_count u o u' htk
              have hol : 0 < o.length := by
                rcases Nat.eq_zero_or_pos o.length with h | h
                · have := List.eq_nil_of_length_eq_zero h
                  subst this
                  simp [sumC] at hsum
                  omega
                · exact h
              have hole : o.length ≤ 512 := by have := takes_len u o u' htk; omega
              obtain ⟨gX, cX, eX, hgX1, hgX2⟩ := own_sl1 HOX.out (by rw [exL_length]; exact hol)
              simp only [Value.slice.injEq] at eX
              obtain ⟨rfl, _, rfl⟩ := eX
              obtain ⟨OL, hOL⟩ : ∃ OL, OL = o.length := ⟨_, rfl⟩
              rw [← hOL] at hol hone hole ⊢
              have HOL := hid hOL
              have hfge : ¬ (q1 : Int) < (k1 : Int) := by have := HFR.out; omega
              have HTK := hid htk; have HSUM := hid hsum; have HONE := hid hone
              have hbg : w.heap.size ≤ gT := by have := HGT.out; omega
              clear htk hsum hone hcnt hOL
              go_wp2_with fail
              go_loopw [20, 21] (fun vc vj wr => ∃ (j : Nat) (uj Tj : List Bool), j ≤ OL ∧ vj = .int .i64 ((j : Nat) : Int) ∧ vc = .int .i64 ((sumC (o.take j) : Nat) : Int) ∧ TU Tj uj ∧ Takes uj (o.drop j) u' ∧ IsPl QT w.heap.size wr P S2 d' ∧ Below w.heap.size w wr ∧
                wr.heap[v0.heap.size]? = some (.cells #[.int .i64 64, .int .i64 2, .int .i64 16, .int .i64 18, .int .i64 19, .int .i64 4, .int .i64 23] 39 (0, 0)) ∧ wr.ownsRow gT 4 1 (.slice (some ⟨gT, 0, none⟩) 64 64) 64 (BvL Tj) ∧ OwnX w1.heap.size wr (some ⟨gX, 0, none⟩) co (exL o)) (fun _ vj _ => OL - (intOf vj).toNat)
              case atStart => exact ⟨0, u, T, by omega, rfl, rfl, HTU.out, HTK.out, HI2.out, HB2.out, HL2.out, HT2.out, HOX.out⟩
              case round => as_aux_lemma =>
                obtain ⟨wv, rfl⟩ : ∃ wv : World, wv = wr := ⟨_, rfl⟩
                obtain ⟨j, uj, Tj, hj, rfl, rfl, hTj, htj, hij, hbj, hlj, htt, hoj⟩ := hrel
                have hsle := sumC_take o j
                have hsle2 := HSUM.out
                by_cases hjl : j < OL
                · as_aux_lemma =>
                  have hjo : j < o.length := by rw [← HOL.out]; exact hjl
                  obtain ⟨x, hx⟩ : ∃ x, o[j]? = some x := ⟨o[j], List.getElem?_eq_getElem hjo⟩
                  have hdr : o.drop j = x :: o.drop (j + 1) := by
                    rw [List.drop_eq_getElem_cons hjo]
                    rw [List.getElem?_eq_getElem hjo] at hx
                    rw [Option.some.inj hx]
                  have htk1 : o.take (j + 1) = o.take j ++ [x] := by rw [List.take_add_one, hx]; rfl
                  rw [hdr] at htj
                  obtain ⟨hfa, htj2⟩ := htj
                  obtain ⟨f1, f2, f3, f4⟩ := hTj.free hfa
                  obtain ⟨b, off, eb, hc⟩ := hoj.rd.at_ (by intro e; have := exL_length o; rw [e] at this; simp at this; omega)
                  cases eb
                  obtain ⟨c0, c1, c2⟩ := hc j (by rw [exL_length]; exact hjo)
                  have hxa : xat (exL o) j = exX x := by
                    unfold xat exL
                    rw [List.getD_eq_getElem?_getD, List.getElem?_map, hx]; rfl
                  rw [hxa] at c0 c1 c2
                  obtain ⟨st, ct⟩ := x
                  simp only [exX, Nat.zero_add] at c0 c1 c2
                  dsimp only at f1 f2 f3 f4
                  have hsum1 : sumC (o.take (j + 1)) = sumC (o.take j) + ct := by rw [htk1]; simp [sumC]
                  have hb4 : Below wv.heap.size wv (wv.alloc (.cells #[.int .i64 0, .int .i64 (st : Int), .int .i64 (ct : Int)] 24)) := (Below.refl _ _).alloc (Nat.le_refl _) _
                  have hx4 := heap_alloc_new wv (.cells #[.int .i64 0, .int .i64 (st : Int), .int .i64 (ct : Int)] 24)
                  have i4 := hij.below hb4
                  have b4 := hbj.trans (hb4.mono hbj.size)
                  have l4 := (hb4.block _ (heap_in hlj)).trans hlj
                  have t4 := own_below htt hb4
                  have o4 := hoj.below hb4
                  have HTJ := hid hTj; have HTJ2 := hid htj2; have HF4 := hid f4; have HS1 := hid hsum1
                  have H4 := hid (And.intro i4 (And.intro b4 (And.intro l4 (And.intro t4 (And.intro o4 hx4)))))
                  clear hc hx hdr htk1 hTj htj2 hfa hij hbj hlj htt hoj hxa f4 hb4 hx4 i4 b4 l4 t4 o4 hsum1
                  obtain ⟨SC, hSC⟩ : ∃ SC, SC = sumC (o.take j) := ⟨_, rfl⟩
                  rw [← hSC] at hsle ⊢
                  have HSC := hid hSC
                  obtain ⟨z0, z1, z2⟩ := cells3b H4.out.2.2.2.2.2
                  clear hSC
                  go_wp2_with fail
                  go_loopw [23] (fun vm wr => ∃ q : Nat, q ≤ ct ∧ vm = .int .i64 ((st + q : Nat) : Int) ∧ IsPl QT w.heap.size wr P S2 d' ∧ Below w.heap.size w wr ∧
                    wr.heap[v0.heap.size]? = some (.cells #[.int .i64 64, .int .i64 2, .int .i64 16, .int .i64 18, .int .i64 19, .int .i64 4, .int .i64 23] 39 (0, 0)) ∧ wr.ownsRow gT 4 1 (.slice (some ⟨gT, 0, none⟩) 64 64) 64 (BvL (setU Tj st q true)) ∧ OwnX w1.heap.size wr (some ⟨gX, 0, none⟩) co (exL o) ∧ wr.heap[wv.heap.size]? = some (.cells #[.int .i64 0, .int .i64 (st : Int), .int .i64 (ct : Int)] 24 (0, 0))) (fun vm _ => 64 - (intOf vm).toNat)
                  case atStart => exact ⟨0, by omega, rfl, H4.out.1, H4.out.2.1, H4.out.2.2.1, by rw [setU_zero]; exact H4.out.2.2.2.1, H4.out.2.2.2.2.1, H4.out.2.2.2.2.2⟩
                  case round => as_aux_lemma =>
                    obtain ⟨wq, rfl⟩ : ∃ wq : World, wq = wr := ⟨_, rfl⟩
                    obtain ⟨q, hq, rfl, iq, bq, lq, tq, oq, xq⟩ := hrel
                    clear z0 z1 z2
                    obtain ⟨z0, z1, z2⟩ := cells3b xq
                    by_cases hqc : q < ct
                    · as_aux_lemma =>
                      have hTl : (setU Tj st q true).length = 64 := by rw [setU_length, HTJ.out.lt]
                      have cl := World.ownsRow.cellAt tq (st + q) (by omega)
                      have hval : (BvL (setU Tj st q true))[st + q]? = some (.bool false) := by
                        have h1 := setU_at Tj st q true (st + q) (by rw [HTJ.out.lt]; omega)
                        rw [if_neg (by omega), HF4.out (st + q) (by omega) (by omega)] at h1
                        rw [BvL, List.getElem?_map, h1]; rfl
                      rw [hval] at cl
                      have fz := World.ownsRow.frozenAt tq (st + q)
                      obtain ⟨s1, s2, s3, s4, s5⟩ := storeT iq bq lq tq hbg (st + q) true
                      rw [setU_succ] at s4
                      obtain ⟨_, _, cst, hrg⟩ := own_row tq (b := gT) rfl
                      have s6 := own_kptT (gT := gT) oq s5 hrg (by decide)
                      have hxne : wv.heap.size ≠ gT := fun e => by
                        rw [e, hrg] at xq
                        simp only [Option.some.injEq, Obj.cells.injEq] at xq
                        exact absurd xq.2.1 (by decide)
                      have s7 := (s5.block _ (heap_in xq) hxne).trans xq
                      have t1 : ((st : Int) + (q : Int)) < (st : Int) + (ct : Int) := by omega
                      have t2 : ¬ ((st : Int) + (q : Int)) < 23 := by omega
                      have t3 : ¬ 63 < ((st : Int) + (q : Int)) := by omega
                      have t4 : ((st : Int) + (q : Int)) < 64 := by omega
                      have t5 : ((st : Int) + (q : Int)).toNat = st + q := by omega
                      have t6 : IntKind.i64.wrap ((st : Int) + (ct : Int)) = (st : Int) + (ct : Int) := IntWalk.i64_in _ (by omega)
                      have hcast : ((st + q : Nat) : Int) = (st : Int) + (q : Int) := by push_cast; rfl
                      have HQ := hid (And.intro s1 (And.intro s2 (And.intro s3 (And.intro s4 (And.intro s6 s7)))))
                      clear s1 s2 s3 s4 s5 s6 s7 iq bq lq tq oq xq hval hrg hxne hTl
                      rw [hcast]
                      clear hcast
                      go_wp2_with fail
                      go_roundw
                      case rel => exact ⟨q + 1, by omega, by go_num, HQ.out.1, HQ.out.2.1, HQ.out.2.2.1, HQ.out.2.2.2.1, HQ.out.2.2.2.2.1, HQ.out.2.2.2.2.2⟩
                      case measure => simp [intOf]; omega
                    · as_aux_lemma =>
                      obtain rfl : q = ct := by omega
                      have t6 : IntKind.i64.wrap ((st : Int) + (q : Int)) = (st : Int) + (q : Int) := IntWalk.i64_in _ (by omega)
                      have hcast : ((st + q : Nat) : Int) = (st : Int) + (q : Int) := by push_cast; rfl
                      have t7 : IntKind.i64.wrap ((SC : Int) + (q : Int)) = (SC : Int) + (q : Int) := IntWalk.i64_in _ (by omega)
                      have HQ := hid (And.intro iq (And.intro bq (And.intro lq (And.intro tq oq))))
                      clear iq bq lq tq oq xq
                      rw [hcast]
                      clear hcast
                      go_wp2_with fail
                      go_roundw
                      case rel => exact ⟨j + 1, setU uj st q true, setU Tj st q true, by omega, by go_num, by rw [HS1.out, ← HSC.out]; go_num, HTJ.out.setB st q true f1, HTJ2.out, HQ.out.1, HQ.out.2.1, HQ.out.2.2.1, HQ.out.2.2.2.1, HQ.out.2.2.2.2⟩
                      case measure => simp [intOf]; omega
                · as_aux_lemma =>
                  obtain rfl : j = OL := by omega
                  have hju : uj = u' := by
                    rw [HOL.out, List.drop_of_length_le (Nat.le_refl _)] at htj
                    exact htj
                  subst hju
                  have hst : sumC (o.take j) = k1 := by rw [HOL.out, List.take_of_length_le (Nat.le_refl _)]; exact HSUM.out
                  rw [hst]
                  have hcmp : (1 < (j : Int)) → ¬ (k1 : Int) ≤ (q3 : Int) := by
                    intro h1 h2
                    have h3 := HONE.out (HLONG.out k1 hk11 (by show k1 ≤ q3; omega))
                    omega
                  have HF := hid (And.intro hij (And.intro hbj (And.intro hlj htt))); have HTJ := hid hTj
                  clear htj hij hbj hlj htt hoj hTj hst hsle hsle2
                  by_cases hj1 : (1 : Int) < (j : Int)
                  · have hj2 := hcmp hj1
                    clear hcmp
                    go_wp2_with fail
                    go_roundw
                    case rel => exact ⟨k + 1, Tj, uj, d', S2, by omega, by go_num, HTJ.out, HSP2.out, HD.out.mono (by omega), HF.out.1, HF.out.2.1, HF.out.2.2.1, HF.out.2.2.2⟩
                    case measure => simp [intOf]; omega
                  · clear hcmp
                    go_wp2_with fail
                    go_roundw
                    case rel => exact ⟨k + 1, Tj, uj, d', S2, by omega, by go_num, HTJ.out, HSP2.out, HD.out.mono (by omega), HF.out.1, HF.out.2.1, HF.out.2.2.1, HF.out.2.2.2⟩
                    case measure => simp [intOf]; omega
    · as_aux_lemma =>
      have hB := HAW.out wo
      have HB := hid hb
      clear hTU hSp hDn hi hb hL hT
      by_cases hlt1 : (k : Int) < (N : Int)
      · have hlt2 : ¬ (k : Int) < 60 := by omega
        clear hlt
        go_wp2_with fail
        refine hB.mono ?_
        rintro e w' ⟨rfl, b'⟩
        have HB2 := hid (HB.out.trans (b'.mono HB.out.size))
        clear hB b'
        go_wp2
        go_ret
        exact ⟨rfl, HB2.out⟩
      · clear hlt
        go_wp2_with fail
        refine hB.mono ?_
        rintro e w' ⟨rfl, b'⟩
        have HB2 := hid (HB.out.trans (b'.mono HB.out.size))
        clear hB b'
        go_wp2
        go_ret
        exact ⟨rfl, HB2.out⟩
end Go.Proofs.Ytahlhdhljjpeoaa

/- Lists of numbers that came in (without a disk). -/
namespace Go.Proofs.Ytahlhdhljjpeoaa
open Go.ChangeShapes Go.WideShapes Go.ChangeAt Go.RowKit Go.Deep
set_option linter.unusedVariables false
set_option linter.unusedSimpArgs false

theorem bytes_i10 : Try.prog.bytesOf 3 = 8 := by kernel_rfl
theorem cells_i10 : Try.prog.cellsOf 3 = 1 := by kernel_rfl
section
variable {H : Type} {enc : TypeId × Value → H} {W : World} {base : Nat}
theorem open_nums10 {d : DataW H} {ps : List MemPlace} {ts : List TypeId} {ds : List (DataW H)} {j : Nat} {a : Option Addr} {len cap : Nat}
    (hsz : (DataW.weightsEach Try.prog ts ds).all (· ≤ reachBytes) = true) (ht : ts[j]? = some 36) (hd : ds[j]? = some d)
    (h : DataW.Trod enc Try.prog W base (fun _ => true) true 36 (.slice a len cap) d ps) :
    ∃ l : List Int, len = l.length ∧ l.length ≤ 140737488351232 ∧ RdV W a (l.map I64v) ∧ (∀ z ∈ l, -9223372036854775808 ≤ z ∧ z ≤ 9223372036854775807) := by
  have h1 := opens_arg (opens_slice Try.underlying36 cells_i10 bytes_i10 (by decide) (opens_i64 Try.underlying3)) hsz ht hd h
  obtain ⟨a', cap', l, hcs, g1, g2, g3, g4⟩ := slr_list (fun y : Int => [Value.int .i64 y]) (fun y => -9223372036854775808 ≤ y ∧ y ≤ 9223372036854775807) (fun es ⟨n, e, e1⟩ => ⟨n, e, e1⟩) h1
  simp [Value.cells] at hcs
  obtain ⟨rfl, rfl, rfl⟩ := hcs
  refine ⟨l, rfl, ?_, rd_one g4, fun z hz => ?_⟩
  · have : reachBytes ≤ 140737488351232 := by decide
    omega
  · obtain ⟨i, hi, rfl⟩ := List.getElem_of_mem hz
    exact (g4 i _ (List.getElem?_eq_getElem hi)).1
end
end Go.Proofs.Ytahlhdhljjpeoaa
