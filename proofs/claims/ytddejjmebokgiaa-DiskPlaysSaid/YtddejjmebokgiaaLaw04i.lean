/- made: the walk. -/
import Derived.Test.YtddejjmebokgiaaLaw04h
namespace Go.Proofs.Ytddejjmebokgiaa
open Go.RowKit
variable {Q : Nat → Prop}
set_option maxHeartbeats 3200000
set_option maxRecDepth 100000
set_option linter.unusedVariables false
set_option linter.unusedSimpArgs false

def W64 (zs : List Int) : List Value := zs.map fun (z : Int) => Value.int .i64 z
theorem info_LL : (Try.prog.info? 33).map (fun i => (i.zero, i.size, i.bytes)) = some (some (.slice none 0 0), 1, 24) := by kernel_rfl
theorem run_mkLL (W : World) : (Instr.makeSlice 25 (.int .i64 4) (.int .i64 4)).run Try.prog W = .ok (.slice (some ⟨W.heap.size, 0, none⟩) 4 4) (W.alloc (.cells (madeCells #[.slice none 0 0] 4) 33)) := by
  obtain ⟨i0, hi, hz0, hz1, hz2⟩ := info_parts info_LL
  have := run_make (P := Try.prog) W 25 33 i0 (.slice none 0 0) Try.underlying25 hi hz0 .i64 .i64 4 4 (by omega) (by omega) (by rw [hz2]; decide) (by omega)
  rw [this, hz1]
  rfl
theorem Sn.congr {base s : Nat} {w : World} {G : Nat → Nat} {F F' : Nat → List (List UInt8)} (h : Sn base w s G F) (e : ∀ k, k < 4 → F k = F' k) : Sn base w s G F' := by
  obtain ⟨⟨cs, off, cap, h1, h2, h3⟩, h4, h5, h6⟩ := h
  refine ⟨⟨cs, off, cap, h1, h2, fun k hk => ?_⟩, h4, h5, h6⟩
  rw [← e k hk]
  exact h3 k hk
/-- A disk's blocks are none of the lists'. -/
def Sep (S : Nat → Prop) (s : Nat) (G : Nat → Nat) : Prop := ∀ b, S b → b ≠ s ∧ ∀ k, k < 4 → b ≠ G k
theorem Sep.turn {base s D : Nat} {w : World} {G : Nat → Nat} {F : Nat → List (List UInt8)} {S S' : Nat → Prop} (h : Sep S s G) (hn : Sn base w s G F) (hs : ∀ b, S' b → S b ∨ w.heap.size ≤ b) : Sep S' s G := by
  intro b hb
  have hl := hn.lt
  rcases hs b hb with hb | hb
  · exact h b hb
  · exact ⟨by omega, fun k hk => by have := hl.2 k hk; omega⟩
/-- A turn of the disk leaves the lists. -/
theorem Sn.turn {base s D : Nat} {w w' : World} {G : Nat → Nat} {F : Nat → List (List UInt8)} {S : Nat → Prop} {d : Dk} (hn : Sn base w s G F) (h : Sep S s G) (hi : IsDk Q base w D S d) (k : Kpt S w w') : Sn base w' s G F :=
  hn.kpt k hi.nou (fun hs => (h s hs).1 rfl) (fun j hj hs => (h _ hs).2 j hj rfl)
/-- A store into the lists leaves the disk. -/
theorem IsDk.lists {base s D k : Nat} {w w1 : World} {G : Nat → Nat} {F : Nat → List (List UInt8)} {S : Nat → Prop} {d : Dk} (hi : IsDk AnyB base w D S d) (hn : Sn base w s G F) (h : Sep S s G) (hk : k < 4) (kp : Kpt (fun b => b = G k) w w1) (v : Value) {g : Nat} (hg : g = G k ∨ w.heap.size ≤ g) :
    IsDk AnyB base (w1.setCell ⟨s, k, none⟩ v) D S d ∧ Sep S s (upd G k g) ∧ (∀ B a, Below B a w → B ≤ base → base ≤ w.heap.size → Below B a (w1.setCell ⟨s, k, none⟩ v)) := by
  have hn' := hn
  obtain ⟨⟨cs, off, cap, h1, h2, h3⟩, h4, h5, h6⟩ := hn'
  have hnoK : ¬ U8 w (G k) := (h3 k hk).2.nou.1
  have hGs : G k ≠ s := by
    intro e
    obtain ⟨_, _, q, _⟩ := (h3 k hk).2
    rw [e, h1] at q
    simp at q
  have hs1 : w1.heap[s]? = some (.cells cs 33 (0, 0)) := (kp.block s (heap_in h1) (fun e => hGs e.symm)).trans h1
  refine ⟨(hi.kpt kp (by rintro b rfl; exact hnoK) (fun b hb e => (h b hb).2 k hk e)).kpt (kpt_one (g := s) (i := k) v) (by rintro b rfl; exact row_not_u8 hs1 (by decide)) (fun b hb e => (h b hb).1 e), fun b hb => ⟨(h b hb).1, fun j hj => ?_⟩, fun B a hb hB hbs => ?_⟩
  · by_cases e : j = k
    · subst e
      simp only [upd, if_pos]
      rcases hg with rfl | hg
      · exact (h b hb).2 j hj
      · have := (hi.blocks hb).2.1; omega
    · simp only [upd, if_neg e]
      exact (h b hb).2 j hj
  · exact (kpt_below' hb kp (by omega) (fun j hj e => by have := h4 k hk; omega)).setCell (p := ⟨s, k, none⟩) (by show B ≤ s; omega) v
/-- The lists behind the first k turns of a flush. -/
def flF (d : Dk) (k j : Nat) : List (List UInt8) := if j < k then [(snc d j).getLastD []] else snc d j
theorem snc_pos (d : Dk) (n : Nat) : 0 < (snc d n).length := by simp [snc]
theorem app_off {ops : Array Oper} {rest : List Oper} {o : Oper} {a : Act} {QQ : Exit → Act → World → Prop} {W : World} (hgd : o.guard = none) (s x : Operand)
    (ho : o.op = .call { callee := .builtin .append, args := #[s, x], argTypes := #[33, 33] })
    (g off cap n : Nat) (ls : List (List UInt8)) (l : List UInt8) (hs : a.eval s = .slice (some ⟨g, off, none⟩) n cap) (hn : n = ls.length) (h : OffR W g off cap ls) (hm : ls.length ≤ 1000000) (xb : Nat) (u : Value) (c : Nat)
    (hx : a.eval x = .slice (some ⟨xb, 0, none⟩) 1 c) (hc : W.cell? ⟨xb, 0, none⟩ = some u) (hu : Dat AnyB W u l)
    (K : ∀ g' off' cap' w1, OffR w1 g' off' cap' (ls ++ [l]) → Kpt (fun b => b = g) W w1 → (g' = g ∨ W.heap.size ≤ g') → wpList Try.prog ops QQ rest (a.put o.dst (.slice (some ⟨g', off', none⟩) (n + 1) cap')) w1) : wpList Try.prog ops QQ (o :: rest) a W := by
  subst hn
  obtain ⟨g', off', cap', w1, hr, h1, h2, h3⟩ := run_app_off (W := W) o.type g off cap ls l h hm xb u c hc hu
  refine wpList_plain hgd fun K' hK => ?_
  unfold Oper.wp execOp
  simp only [ho, resolve, invoke, builtin, Sem.run_bind, Sem.run_pure, Result.andThen_ok, List.map_toArray, List.map_cons, List.map_nil, hs, hx, hr]
  exact hK _ _ (K g' off' cap' w1 h1 h2 h3)
theorem made_row {base s : Nat} {w : World} {G : Nat → Nat} {F : Nat → List (List UInt8)} (h : Sn base w s G F) : ∃ cs, w.heap[s]? = some (.cells cs 33 (0, 0)) := by
  obtain ⟨⟨cs, _, _, h1, _⟩, _⟩ := h
  exact ⟨cs, h1⟩
theorem made_ne {base s k : Nat} {w : World} {G : Nat → Nat} {F : Nat → List (List UInt8)} (h : Sn base w s G F) (hk : k < 4) : G k ≠ s := by
  obtain ⟨⟨cs, _, _, h1, _, h3⟩, _⟩ := h
  intro e
  obtain ⟨_, _, q, _⟩ := (h3 k hk).2
  rw [e, h1] at q
  simp at q
theorem made_any (w : World) (ws : List Int) (a : Option Addr) (c : Nat) (hl : ws.length ≤ 140737488351232) (hr : RdV w a (W64 ws)) (hz : ∀ z ∈ ws, -9223372036854775808 ≤ z ∧ z ≤ 9223372036854775807) :
    Calls Try.prog 10 #[.slice a ws.length c] w fun e w' => ∃ D S s G, e = .returned (.tuple #[ptr D, .slice (some ⟨s, 0, none⟩) 4 4]) ∧ IsDk AnyB w.heap.size w' D S (mst ws (min ws.length 30)) ∧ Sn w.heap.size w' s G (snc (mst ws (min ws.length 30))) ∧ Sep S s G ∧ Below w.heap.size w w' := by
  have NW := New_any w 4 (by decide) (by decide)
  have mk := run_mkLL
  have hw : ∀ i, i < ws.length → ∃ b off, a = some ⟨b, off, none⟩ ∧ w.cell? ⟨b, off + i, none⟩ = some (.int .i64 (ws.getD i 0)) ∧ -9223372036854775808 ≤ ws.getD i 0 ∧ ws.getD i 0 ≤ 9223372036854775807 := by
    intro i hi
    obtain ⟨b, off, rfl, hc⟩ := hr (by intro e; have := congrArg List.length e; simp [W64] at this; rw [this] at hi; simp at hi)
    have e : ws.getD i 0 = ws[i] := by rw [List.getD_eq_getElem?_getD, List.getElem?_eq_getElem hi]; rfl
    rw [e]
    exact ⟨b, off, rfl, hc i _ (by simp [W64, hi]), hz _ (List.getElem_mem hi)⟩
  have HW := hid hw
  clear hw hr hz
  obtain ⟨N, hN⟩ : ∃ N, N = ws.length := ⟨_, rfl⟩
  rw [← hN] at hl HW ⊢
  obtain ⟨d0, hd0⟩ : ∃ d, d = newDk 4 := ⟨_, rfl⟩
  rw [← hd0] at NW
  have HD0 := hid hd0
  clear hN hd0
  go_enter Try.func10, Try.ntmps10
  go_wp2_with fail
  refine NW.mono ?_
  rintro e v1 ⟨D, S0, rfl, i1q, b1⟩
  have i1 : IsDk AnyB w.heap.size v1 D S0 d0 := i1q.monoQ (fun _ _ => trivial)
  clear NW i1q
  unfold ptr at *
  go_wp2_with fail
  obtain ⟨v2, hv2⟩ : ∃ v2, v2 = v1.alloc (.cells (madeCells #[.slice none 0 0] 4) 33) := ⟨_, rfl⟩
  have b2 : Below v1.heap.size v1 v2 := by rw [hv2]; exact (Below.refl _ _).alloc (Nat.le_refl _) _
  have hrow2 : v2.heap[v1.heap.size]? = some (.cells (madeCells #[.slice none 0 0] 4) 33 (0, 0)) := by rw [hv2]; exact heap_alloc_new v1 _
  have i2 := i1.below b2
  have bb2 := b1.trans (b2.mono b1.size)
  have HS0 := hid (fun b (hb : S0 b) => (i1.blocks hb).2.1)
  have hsz1 := b1.size
  rw [← hv2]
  have HV2 := hid hv2
  clear hv2 i1 b1 b2
  go_loopw [7] (fun i wr => ∃ (k : Nat) (G : Nat → Nat) (cs : Array Value), k ≤ 4 ∧ i = .int .i64 k ∧ wr.heap[v1.heap.size]? = some (.cells cs 33 (0, 0)) ∧ cs.size = 4 ∧ (∀ j, j < k → cs[j]? = some (.slice (some ⟨G j, 0, none⟩) 1 1) ∧ OffR wr (G j) 0 1 [zeros 4096] ∧ v1.heap.size < G j) ∧ (∀ i j, i < j → j < k → G i < G j) ∧ IsDk AnyB w.heap.size wr D S0 d0 ∧ Below w.heap.size w wr) (fun i _ => 4 - (intOf i).toNat)
  case atStart => exact ⟨0, id, _, by omega, rfl, hrow2, by simp [size_madeCells], fun j hj => absurd hj (Nat.not_lt_zero _), fun i j _ hj => absurd hj (Nat.not_lt_zero _), i2, bb2⟩
  case round =>
    obtain ⟨k, G, cs, hk, rfl, hrow, hcs, hG, hGG, hI, hB⟩ := hrel
    obtain ⟨u1, rfl⟩ : ∃ u1, u1 = wr := ⟨_, rfl⟩
    by_cases hlt : k < 4
    · have HROW := hid hrow; have HG := hid hG; have HGG := hid hGG; have HI := hid hI; have HCS := hid hcs
      clear hrow hG hGG hI hcs mk hrow2 i2 bb2
      go_wp2_with fail
      refine (filled_any _ 0).mono ?_
      rintro e u2 ⟨gf, rfl, f2, bf⟩
      have hrow2 := (bf.block _ (heap_in HROW.out)).trans HROW.out
      obtain ⟨u3, hu3⟩ : ∃ u3, u3 = u2.alloc (.cells #[.slice (some ⟨gf, 0, none⟩) 4096 4096] 30) := ⟨_, rfl⟩
      have b3 : Below u2.heap.size u2 u3 := by rw [hu3]; exact (Below.refl _ _).alloc (Nat.le_refl _) _
      have hnew3 : u3.heap[u2.heap.size]? = some (.cells #[.slice (some ⟨gf, 0, none⟩) 4096 4096] 30 (0, 0)) := by rw [hu3]; exact heap_alloc_new u2 _
      have hrow3 := (b3.block _ (heap_in hrow2)).trans hrow2
      have hfz := frow hrow3 k
      have hcell : u3.cell? ⟨v1.heap.size, k, none⟩ = some (cs[k]'(by rw [HCS.out]; exact hlt)) := by rw [cell_of_row _ _ _ _ _ _ hrow3]; exact Array.getElem?_eq_getElem _
      have hdat : Dat AnyB u2 (.slice (some ⟨gf, 0, none⟩) (zeros 4096).length 4096) (zeros 4096) := Dat.own f2 trivial
      rw [zeros_length] at hdat
      have hdat3 := hdat.below b3
      have b13 := bf.trans (b3.mono bf.size)
      have hs2 := bf.size
      have hlt1 : v1.heap.size < u1.heap.size := heap_in HROW.out
      have HN3 := hid hnew3; have HR3 := hid hrow3; have HD3 := hid hdat3
      rw [hu3] at hcell hfz
      have HU3 := hid hu3
      clear hu3 hnew3 hrow3 hdat hdat3 hrow2 f2
      go_wp2_with fail
      rw [← HU3.out]
      have kq : Kpt (fun b => b = v1.heap.size) u3 (u3.setCell ⟨v1.heap.size, k, none⟩ (.slice (some ⟨u2.heap.size, 0, none⟩) 1 1)) := kpt_one _
      have hnu : ∀ b, b = v1.heap.size → ¬ U8 u3 b := by rintro b rfl; exact row_not_u8 HR3.out (by decide)
      refine ⟨⟨k + 1, upd G k u2.heap.size, cs.setIfInBounds k (.slice (some ⟨u2.heap.size, 0, none⟩) 1 1), by omega, by go_num, heap_setCell_same _ _ _ _ _ _ HR3.out, by simpa using HCS.out, fun j hj => ?_, fun i j hij hj => ?_, ?_, ?_⟩, by simp [intOf]; omega⟩
      · by_cases e : j = k
        · subst e
          simp only [upd, if_pos]
          refine ⟨by simp [HCS.out, hlt], ?_, by omega⟩
          refine OffR.kpt ⟨_, [.slice (some ⟨gf, 0, none⟩) 4096 4096], HN3.out, (Dats.nil _).snoc HD3.out, fun i v hv => ?_, by simp, by simp, by omega⟩ kq hnu (by omega)
          rcases i with _ | i
          · simpa using hv
          · simp at hv
        · obtain ⟨q1, q2, q3⟩ := HG.out j (by omega)
          simp only [upd, if_neg e]
          refine ⟨by rw [Array.getElem?_setIfInBounds_ne (fun x => e x.symm)]; exact q1, (q2.below b13).kpt kq hnu (by omega), q3⟩
      · by_cases e : j = k
        · subst e
          have e2 : ¬ i = j := by omega
          simp only [upd, if_pos, if_neg e2]
          obtain ⟨q1, q2, q3⟩ := HG.out i (by omega)
          have := q2.nou.2
          omega
        · have e2 : ¬ i = k := by omega
          simp only [upd, if_neg e, if_neg e2]
          exact HGG.out i j hij (by omega)
      · exact (HI.out.below b13).kpt kq hnu (fun b hb e => by have := HS0.out b hb; omega)
      · exact (hB.trans (b13.mono hB.size)).setCell (p := ⟨v1.heap.size, k, none⟩) hsz1 _
    · obtain rfl : k = 4 := by omega
      have hSn0 : Sn w.heap.size u1 v1.heap.size G (snc d0) := by
        refine Sn.congr (F := fun _ => [zeros 4096]) ⟨⟨cs, fun _ => 0, fun _ => 1, hrow, hcs, fun j hj => ⟨(hG j hj).1, (hG j hj).2.1⟩⟩, fun j hj => by have := (hG j hj).2.2; omega, fun i j hi hj hij => ?_, hsz1⟩ (fun j hj => by rw [HD0.out]; exact (good_new.2 j hj).symm)
        rcases Nat.lt_or_ge i j with h | h
        · have := hGG i j h hj; omega
        · have := hGG j i (by omega) hi; omega
      have hSep0 : Sep S0 v1.heap.size G := fun b hb => ⟨by have := HS0.out b hb; omega, fun j hj => by have := HS0.out b hb; have := (hG j hj).2.2; omega⟩
      have hm0 : mst ws 0 = d0 := HD0.out.symm
      have HM0 := hid hm0
      clear hrow hcs hG hGG hlt hk mk hrow2 i2 bb2 hm0 HV2 HS0
      go_wp2_with fail
      go_loopw [8] (fun i wr => ∃ (k : Nat) (S : Nat → Prop) (G : Nat → Nat), k ≤ min N 30 ∧ i = .int .i64 k ∧ IsDk AnyB w.heap.size wr D S (mst ws k) ∧ Sn w.heap.size wr v1.heap.size G (snc (mst ws k)) ∧ Sep S v1.heap.size G ∧ Below w.heap.size w wr) (fun i _ => min N 30 - (intOf i).toNat)
      case atStart => exact ⟨0, S0, G, by omega, rfl, by rw [HM0.out]; exact hI, by rw [HM0.out]; exact hSn0, hSep0, hB⟩
      case round =>
        obtain ⟨k, S, G, hk, rfl, hI, hSn, hSep, hB⟩ := hrel
        obtain ⟨u1, rfl⟩ : ∃ u1, u1 = wr := ⟨_, rfl⟩
        by_cases hlt : k < min N 30
        · have hd1 : decide ((k : Int) < (N : Int)) = true := decide_eq_true (by omega)
          have hd2 : decide ((k : Int) < 30) = true := decide_eq_true (by omega)
          obtain ⟨bw, ow, rfl, hcw, hz1, hz2⟩ := HW.out k (by omega)
          have hcw' := cell_below hB hcw
          have PK := fun W => Pick_val W (ws.getD k 0) 1000003 1000003 rfl ⟨hz1, hz2⟩ (by decide) (by decide)
          have hms : mst ws (k + 1) = mstep (ws.getD k 0) (mst ws k) := rfl
          obtain ⟨hgood, hwn⟩ := mst_good ws k (by omega)
          unfold mstep at hms
          clear hcw
          generalize ws.getD k 0 = x at *
          have hnlt := pickN_lt x 1000003 (by decide)
          generalize pickN x 1000003 = n at *
          have HMS := hid hms
          clear hms
          generalize mst ws k = d at *
          have hl4 := hSn.lt
          by_cases h6 : n % 6 = 0
          · have hmt : (Int.tmod (n : Int) 6 == 0) = true := by
              rw [Int.tmod_eq_emod_of_nonneg (by omega)]; simp; omega
            have hms2 := HMS.out
            rw [if_pos h6] at hms2
            have HM2 := hid hms2
            have FL := fun W (h : IsDk AnyB w.heap.size W D S d) => Flush_is W D h
            have hfl : d.flD = d.flush := by simp only [Dk.flD, (calm_stop hgood.calm).1, (calm_stop hgood.calm).2, ne_eq, not_true, if_false]
            simp only [hfl, (calm_stop hgood.calm).1] at FL
            unfold ptr at FL
            obtain ⟨hgf, hsf⟩ := good_flush hgood
            have HSF := hid hsf
            clear hms2 HMS hsf hfl
            go_wp2_with fail
            refine (PK _).mono ?_
            rintro e u2 ⟨rfl, rfl⟩
            clear PK
            go_wp2_with fail
            refine (FL _ hI).mono ?_
            rintro e u3 ⟨rfl, t3⟩
            obtain ⟨S3, i3, k3, s3, bb3⟩ := t3.open_ hI hB
            have hSn3 := hSn.turn hSep hI k3
            have hSep3 := hSep.turn (D := D) hSn s3
            clear t3 hI hSn hSep k3 s3 FL
            go_wp2_with fail
            go_loopw [10] (fun i wr => ∃ (j : Nat) (G : Nat → Nat), j ≤ 4 ∧ i = .int .i64 j ∧ IsDk AnyB w.heap.size wr D S3 d.flush ∧ Sn w.heap.size wr v1.heap.size G (flF d j) ∧ Sep S3 v1.heap.size G ∧ Below w.heap.size w wr) (fun i _ => 4 - (intOf i).toNat)
            case atStart => exact ⟨0, G, by omega, rfl, i3, hSn3.congr (fun k hk => rfl), hSep3, bb3⟩
            case round =>
              obtain ⟨j, G, hj, rfl, hI, hSn, hSep, hB⟩ := hrel
              by_cases hj4 : j < 4
              · obtain ⟨off, cap, q1, q2, q3, q4, q5⟩ := hSn.at_ hj4
                have hFj : flF d j j = snc d j := if_neg (by omega)
                rw [hFj] at q1 q2 q3
                obtain ⟨L, hL⟩ : ∃ L, (snc d j).length = L + 1 := ⟨(snc d j).length - 1, by have := snc_pos d j; omega⟩
                have q6 := q2.last (snc_pos d j)
                rw [hL] at q1 q3 q6
                simp only [Nat.add_sub_cancel] at q6
                have ex : L + 1 - L = 1 := by omega
                have kd := kpt_drew (fun b => b = G j) wr
                have hbs : w.heap.size ≤ wr.heap.size := hB.size
                have P := hSn.put hj4 (w1 := wr.drew) (g := G j) (off := off + L) (cap := cap - L) (ls := [(snc d j).getLastD []]) kd (.inl rfl) (q6.kpt (T := fun _ => False) ⟨rfl, rfl, rfl, Nat.le_refl _, fun _ _ _ => rfl⟩ (fun _ h => h.elim) (fun h => h)) hbs
                obtain ⟨p1, p2, p3⟩ := hI.lists hSn hSep hj4 kd (.slice (some ⟨G j, off + L, none⟩) 1 (cap - L)) (.inl rfl)
                have p3' := p3 w.heap.size w hB (Nat.le_refl _) hbs
                have P1 := hid (P.congr (F' := flF d (j + 1)) (fun i hi => by
                  by_cases e : i = j
                  · subst e; simp [upd, flF]
                  · have : (i < j + 1) ↔ (i < j) := by omega
                    simp [upd, e, flF, this]))
                have P2 := hid p1; have P3 := hid p2; have P4 := hid p3'
                clear P p1 p2 p3 p3' q2 q6 hSn hSep hI kd hFj hL
                go_wp2_with fail
                go_region
                all_goals
                  try rw [ex]
                  go_wp2_with fail
                  exact ⟨⟨j + 1, upd G j (G j), by omega, by go_num, P2.out, P1.out, P3.out, P4.out⟩, by simp [intOf]; omega⟩
              · obtain rfl : j = 4 := by omega
                go_wp2_with fail
                refine ⟨?_, by simp [intOf]; omega⟩
                repeat apply Exists.intro
                refine And.intro ?_ rfl
                refine ⟨k + 1, S3, G, by omega, by go_num, by rw [HM2.out]; exact hI, ?_, hSep, hB⟩
                rw [HM2.out]
                exact hSn.congr (fun i hi => by rw [HSF.out i hi]; simp [flF, hi])
          · have hmt : (Int.tmod (n : Int) 6 == 0) = false := by
              rw [Int.tmod_eq_emod_of_nonneg (by omega)]; simp; omega
            have hms2 := HMS.out
            rw [if_neg h6] at hms2
            have HM2 := hid hms2
            obtain ⟨p, hp⟩ : ∃ p, p = n / 6 := ⟨_, rfl⟩
            obtain ⟨m, hm⟩ : ∃ m, m = p % 4 := ⟨_, rfl⟩
            have hm4 : m < 4 := by omega
            have hq1 : Int.tdiv (n : Int) 6 = (p : Int) := by rw [Int.tdiv_eq_ediv_of_nonneg (by omega), hp]; rfl
            have hq2 : Int.tmod (p : Int) 4 = (m : Int) := by rw [Int.tmod_eq_emod_of_nonneg (by omega), hm]; rfl
            have hpm : n / 6 % 4 = m := by rw [← hp, ← hm]
            have MD := fun W => Made_any W (n : Int) 4096 (by decide)
            have lL := madeB_length (n : Int) 4096
            rw [hpm] at HM2
            have hpb : p ≤ 1000003 := by omega
            clear hms2 HMS hp hm hpm
            generalize madeB (n : Int) 4096 = L at *
            obtain ⟨e1, qq1, cc1⟩ := calm_write (n := m) (b := L) hgood.calm (by rw [hgood.four]; exact hm4) lL
            obtain ⟨hgp, hsp⟩ := good_put hgood hm4 lL (by omega)
            have WR := fun W S (h : IsDk AnyB w.heap.size W D S d) g (hr : RdU W (some ⟨g, 0, none⟩) L) => Write_is W D h (by omega) (m : Int) (some ⟨g, 0, none⟩) 4096 4096 L lL.symm hr
            simp only [e1, qq1] at WR
            unfold ptr at WR
            have hsl : (snc d m).length ≤ 1000000 := by
              have := hgood.ok.wlen
              have h1 := List.length_filter_le (fun p => p.1 == m) (d.wn.zip d.wd)
              simp only [snc, List.length_cons, List.length_map]
              rw [List.length_zip] at h1
              omega
            have HSP := hid hsp; have HLL := hid lL; have HSL := hid hsl
            clear hsp lL e1 qq1 cc1 hgp hsl
            go_wp2_with fail
            refine (PK _).mono ?_
            rintro e u2 ⟨rfl, rfl⟩
            clear PK
            go_wp2_with fail
            refine (MD _).mono ?_
            rintro e u3 ⟨gm, rfl, f3, b3⟩
            have i3 := hI.below b3
            have n3 := hSn.below b3
            have bb3 := hB.trans (b3.mono hB.size)
            clear MD hI hSn hB
            go_wp2_with fail
            refine (WR _ _ i3 gm f3.rdu).mono ?_
            rintro e u4 ⟨rfl, t4⟩
            obtain ⟨S4, i4, k4, s4, bb4⟩ := t4.open_ i3 bb3
            have n4 := n3.turn hSep i3 k4
            have hSep4 := hSep.turn (D := D) n3 s4
            have f4 := f3.kpt' k4 i3.nou
            obtain ⟨off, cap, q1, q2, q3, q4, q5⟩ := n4.at_ hm4
            have q1a : ∀ o, (u4.alloc o).cell? ⟨v1.heap.size, m, none⟩ = some (.slice (some ⟨G m, off, none⟩) (snc d m).length cap) := fun o => cell_below ((Below.refl _ _).alloc (Nat.le_refl _) o) q1
            have hdat : Dat AnyB u4 (.slice (some ⟨gm, 0, none⟩) L.length 4096) L := Dat.own f4 trivial
            rw [HLL.out] at hdat
            have hbs : w.heap.size ≤ u4.heap.size := bb4.size
            have N4 := hid n4; have I4 := hid i4; have S4' := hid hSep4; have Q2 := hid q2; have HD := hid hdat; have BB := hid bb4
            clear t4 i3 n3 k4 s4 hSep f3 f4 WR n4 i4 hSep4 q2 hdat bb4 bb3 b3
            have ba : ∀ o, Below u4.heap.size u4 (u4.alloc o) := fun o => (Below.refl _ _).alloc (Nat.le_refl _) o
            generalize hF : (snc d m).length = F at *
            have HF := hid hF
            clear hF
            go_wp2_with (at_builtin; refine app_off rfl (.tmp 85) (.tmp 87) rfl (G m) off cap F (snc d m) L rfl HF.out.symm (Q2.out.below (ba _)) (by rw [HF.out]; exact HSL.out) u4.heap.size (.slice (some ⟨gm, 0, none⟩) 4096 4096) 1 rfl (by rw [cell_of_row _ _ _ _ _ _ (heap_alloc_new u4 _)]; rfl) (HD.out.below (ba _)) ?_; intro g' off' cap' w1 h1 h2 h3; have hsG : v1.heap.size ≠ G m := fun e => made_ne N4.out hm4 e.symm; have c1 := Kpt.cell (S := fun b => b = G m) h2 (q1a _) hsG; obtain ⟨csr, hrs⟩ := made_row N4.out; have hrs1 := (h2.block _ (by simp; have := heap_in hrs; omega) hsG).trans ((Below.heap_alloc u4 _ _ (heap_in hrs)).trans hrs); have z1 := frow hrs1 m; have H1 := hid h1; have H2 := hid h2; have H3 := hid h3; clear h1 h2 h3 hrs hrs1)
            refine ⟨?_, by simp [intOf]; omega⟩
            repeat apply Exists.intro
            refine And.intro ?_ rfl
            have hlen : (snc d m ++ [L]).length = F + 1 := by rw [List.length_append, HF.out]; rfl
            have P := Sn.put (N4.out.below (ba _)) hm4 H2.out (by rcases H3.out with h | h; exact .inl h; exact .inr h) H1.out (Nat.le_trans hbs (ba (.cells #[.slice (some ⟨gm, 0, none⟩) 4096 4096] 30)).size)
            rw [hlen] at P
            obtain ⟨p1, p2, p3⟩ := (I4.out.below (ba _)).lists (N4.out.below (ba _)) S4'.out hm4 H2.out (.slice (some ⟨g', off', none⟩) (F + 1) cap') H3.out
            have p4 := p3 w.heap.size w (BB.out.trans ((ba _).mono BB.out.size)) (Nat.le_refl _) (Nat.le_trans hbs (ba (.cells #[.slice (some ⟨gm, 0, none⟩) 4096 4096] 30)).size)
            refine ⟨k + 1, S4, upd G m g', by omega, by go_num, by rw [HM2.out]; exact p1, ?_, p2, p4⟩
            rw [HM2.out]
            refine P.congr (fun i hi => ?_)
            rw [HSP.out i]
            simp only [upd]
            by_cases e : i = m
            · subst e; simp
            · simp [e]
        · have hend : k = min N 30 := by omega
          have HE := hid hend
          by_cases hkN : k = N
          · have hd1 : decide ((k : Int) < (N : Int)) = false := decide_eq_false (by omega)
            clear hend hlt
            go_wp2
            refine bodyPost_ret (v := .tuple #[.pointer (some ⟨D, 0, none⟩), .slice (some ⟨v1.heap.size, 0, none⟩) 4 4]) (by simp [results, Try.results10, go_sem]) rfl ⟨D, S, v1.heap.size, G, rfl, by rw [← HE.out]; exact hI, by rw [← HE.out]; exact hSn, hSep, hB⟩
          · have hd1 : decide ((k : Int) < (N : Int)) = true := decide_eq_true (by omega)
            have hd2 : decide ((k : Int) < 30) = false := decide_eq_false (by omega)
            clear hend hlt
            go_wp2
            refine bodyPost_ret (v := .tuple #[.pointer (some ⟨D, 0, none⟩), .slice (some ⟨v1.heap.size, 0, none⟩) 4 4]) (by simp [results, Try.results10, go_sem]) rfl ⟨D, S, v1.heap.size, G, rfl, by rw [← HE.out]; exact hI, by rw [← HE.out]; exact hSn, hSep, hB⟩
end Go.Proofs.Ytddejjmebokgiaa
