/- The walk of ledgerstonelow.ApartBytes. -/
import Derived.Test.YtknhfaplddgnlaaApart2
namespace Go.Proofs.Ytknhfaplddgnlaa
open Go.RowKit
set_option maxHeartbeats 3200000
set_option linter.unusedVariables false
set_option linter.unusedSimpArgs false
theorem info_sl : (Try.prog.info? 31).map (fun i => (i.zero, i.size, i.bytes)) = some (some (.slice none 0 0), 1, 24) := by kernel_rfl
theorem run_mkS (n : Nat) (x y : Int) (hx : x = n) (hy : y = n) (hn : n ≤ 1000) (W : World) : (Instr.makeSlice 22 (.int .i64 x) (.int .i64 y)).run Try.prog W = .ok (.slice (some ⟨W.heap.size, 0, none⟩) n n) (W.alloc (.cells (madeCells #[.slice none 0 0] n) 31)) := by
  subst hx hy
  obtain ⟨i0, hi, hz0, hz1, hz2⟩ := info_parts info_sl
  have := run_make (P := Try.prog) W 22 31 i0 (.slice none 0 0) Try.underlying22 hi hz0 .i64 .i64 (n : Int) (n : Int) (by omega) (by omega) (by rw [hz2]; omega) (by omega)
  rw [this, hz1]
  simp only [Int.toNat_natCast, Nat.mul_one]
  rfl
theorem cell_set_far {w : World} {b off : Nat} {v : Value} (h : w.cell? ⟨b, off, none⟩ = some v) (p : Addr) (u : Value) (hne : b ≠ p.block) : (w.setCell p u).cell? ⟨b, off, none⟩ = some v :=
  Kpt.cell (S := fun j => j = p.block) (w := w) (w' := w.setCell p u) ⟨rfl, rfl, rfl, by simp [World.setCell], fun j hj hs => Below.heap_setCell _ _ _ _ hs⟩ h hne
theorem kpt_set {S : Nat → Prop} (w : World) (g j : Nat) (u : Value) (h : S g) : Kpt S w (w.setCell ⟨g, j, none⟩ u) :=
  ⟨rfl, rfl, rfl, by simp [World.setCell], fun i hi hs => Below.heap_setCell _ _ _ _ (fun e => hs (by rw [e]; exact h))⟩
theorem grow_step {v2 wr w8 : World} {o : Obj} {gq base gg g1 c1 q nq j : Nat} (hgg : gg = gq ∨ v2.heap.size ≤ gg) (hR : RdB wr (some ⟨gq, 0, none⟩) (mks q nq))
    (kj : Kpt (fun b => b = gq ∨ v2.heap.size ≤ b) v2 wr) (h8 : OwnB base w8 (some ⟨g1, 0, none⟩) c1 (mks q (nq + j)))
    (h9 : ((some (⟨g1, 0, none⟩ : Addr)).map (·.block) = (some (⟨gg, 0, none⟩ : Addr)).map (·.block) ∧ (wr.alloc o).grownBy w8 ((some (⟨gg, 0, none⟩ : Addr)).map (·.block))) ∨ ((some (⟨g1, 0, none⟩ : Addr)).map (·.block) = some (wr.alloc o).heap.size ∧ Below (wr.alloc o).heap.size (wr.alloc o) w8)) :
    (g1 = gq ∨ v2.heap.size ≤ g1) ∧ RdB w8 (some ⟨gq, 0, none⟩) (mks q nq) ∧ Kpt (fun b => b = gq ∨ v2.heap.size ≤ b) v2 w8 := by
  have ka : Kpt (fun b => b = gq ∨ v2.heap.size ≤ b) v2 (wr.alloc o) := kj.trans (Kpt.of_below ((Below.refl _ _).alloc (Nat.le_refl _) _))
  rcases h9 with ⟨e, hg⟩ | ⟨e, hb⟩
  · simp only [Option.map_some, Option.some.injEq] at e hg
    subst e
    refine ⟨hgg, ?_, ka.trans (Kpt.of_grown hg (fun j e => by cases e; exact hgg))⟩
    by_cases e : g1 = gq
    · subst e
      have h := RdV.take h8.rd nq
      have e : (B8s (mks q (nq + j))).take nq = B8s (mks q nq) := by rw [← mks_take q nq (nq + j) (by omega)]; simp [B8s, List.map_take]
      rw [e] at h
      exact h
    · exact RdB.kpt (RdB.alloc hR o) (Kpt.of_grown (S := fun b => b = g1) hg (fun j e => by cases e; rfl)) (fun e' => e e'.symm)
  · simp at e
    have := kj.size
    exact ⟨.inr (by omega), (RdB.alloc hR o).below hb, ka.trans (Kpt.of_below hb)⟩
theorem free_of_rowA {w : World} {g : Nat} {cs : Array Value} {t : TypeId} (h : w.heap[g]? = some (.cells cs t (0, 0))) (k : Nat) : w.frozen? ⟨g, k, none⟩ = false := by
  simp [World.frozen?, h]
theorem rd_mks {w : World} {g k t x : Nat} (h : RdB w (some ⟨g, 0, none⟩) (mks k t)) (hx : x < t) : w.cell? ⟨g, x, none⟩ = some (.int .u8 ((mkB k x).toNat : Int)) := by
  obtain ⟨b, off, e, h1⟩ := h.at_ (by intro e; have := mks_length k t; rw [e] at this; simp at this; omega)
  cases e
  have := h1 x (by rw [mks_length]; exact hx)
  rw [Nat.zero_add, bat_mks _ _ _ hx] at this
  exact this
theorem kpt_last {S T : Nat → Prop} {w v1 v2 : World} (h1 : Kpt S w v1) (h2 : Kpt T v1 v2) (h : ∀ j, j < w.heap.size → T j → S j) : Kpt S w v2 :=
  ⟨h2.os.trans h1.os, h2.tape.trans h1.tape, h2.output.trans h1.output, Nat.le_trans h1.size h2.size, fun j hj hs => (h2.block j (Nat.lt_of_lt_of_le hj h1.size) (fun e => hs (h j hj e))).trans (h1.block j hj hs)⟩
theorem below_drewNA {B : Nat} {a w : World} (h : Below B a w) (n : Nat) : Below B a (w.drewN n) := ⟨h.os, h.tape, h.output, h.size, h.block⟩
set_option maxRecDepth 100000 in
theorem ApartBytes_any (w : World) (base L cL m : Nat) (g c n : Nat → Nat) (l : Nat → List UInt8) (hm : m ≤ 1000) (hrow : ∀ k, k < m → w.cell? ⟨L, k, none⟩ = some (.slice (some ⟨g k, 0, none⟩) (n k) (c k)))
    (hown : Lie m g c n base w l) (hne : ∀ j k, j < m → k < m → j ≠ k → g j ≠ g k) (hL : ∀ k, k < m → g k ≠ L) (hlen : ∀ k, k < m → n k ≤ 1000000) (hb : base ≤ w.heap.size) :
    Calls Try.prog 28 #[.slice (some ⟨L, 0, none⟩) m cL] w fun e w' => e = .returned (.bool true) ∧ Kpt (fun b => ∃ k, k < m ∧ g k = b) w w' := by
  have HLt := hid (fun k (hk : k < m) => World.block_lt_of_cell? w ⟨L, k, none⟩ (hrow k hk))
  have hmk := fun W => run_mkS m m m rfl rfl hm W
  have hLS : ¬ ∃ k, k < m ∧ g k = L := fun ⟨k, h1, h2⟩ => hL k h1 h2
  go_enter Try.func28, Try.ntmps28
  go_wp2_with fail
  obtain ⟨v, hv⟩ : ∃ v, v = w.alloc (.cells (madeCells #[.slice none 0 0] m) 31) := ⟨_, rfl⟩
  have bv : Below w.heap.size w v := by rw [hv]; exact (Below.refl _ _).alloc (Nat.le_refl _) _
  have kv : Kpt (fun b => ∃ k, k < m ∧ g k = b) w v := Kpt.of_below bv
  have hG := hid (show v.heap[w.heap.size]? = some (.cells (madeCells #[.slice none 0 0] m) 31 (0, 0)) by rw [hv]; exact heap_alloc_new w _)
  have hrow' := hid (fun k (hk : k < m) => kv.cell (hrow k hk) hLS)
  have hm0 : Mk m g c n base v 0 0 := ⟨l, fun j hj => ⟨(hown j hj).1.below bv, (hown j hj).2⟩, fun j hj => absurd hj (Nat.not_lt_zero _), fun j hj => absurd hj (Nat.not_lt_zero _)⟩
  have hgs : ∀ k, k < m → g k < w.heap.size := fun k hk => (hown k hk).1.lt.2
  rw [← hv]
  have HV := hid hv
  have HN := hid hne; have HLn := hid hlen; have HGS := hid hgs
  clear hv hrow hne hlen hgs hown hL
  go_loopw [4] (fun i wr => ∃ k : Nat, k ≤ m ∧ i = .int .i64 k ∧ Kpt (fun b => ∃ k, k < m ∧ g k = b) v wr ∧ Mk m g c n base wr k 0) (fun i _ => m - (intOf i).toNat)
  case atStart => exact ⟨0, by omega, rfl, Kpt.refl _ _, hm0⟩
  case round =>
    obtain ⟨k, hk, rfl, kb, hM⟩ := hrel
    obtain ⟨v1, rfl⟩ : ∃ v1, v1 = wr := ⟨_, rfl⟩
    by_cases hlt : k < m
    · go_wp2_with fail
      go_loopw [5] (fun i wr => ∃ x : Nat, x ≤ n k ∧ i = .int .i64 x ∧ Kpt (fun b => ∃ k, k < m ∧ g k = b) v wr ∧ Mk m g c n base wr k x) (fun i _ => n k - (intOf i).toNat)
      case atStart => exact ⟨0, by omega, rfl, kb, hM⟩
      case round =>
        obtain ⟨x, hx, rfl, kb2, hM2⟩ := hrel
        have sv := kb2.cell (hrow'.out k hlt) hLS
        by_cases hlt2 : x < n k
        · have fz : wr.frozen? ⟨g k, x, none⟩ = false := by obtain ⟨C, hC1, _⟩ := hM2; exact (hC1 k hlt).1.free x
          obtain ⟨cv, hcv⟩ : ∃ cv, wr.cell? ⟨g k, x, none⟩ = some (.int .u8 cv) := by
            obtain ⟨C, hC1, _⟩ := hM2
            obtain ⟨b, off, e, h⟩ := (hC1 k hlt).1.rd.at_ (by intro e; have := (hC1 k hlt).2; rw [e] at this; simp at this; omega)
            cases e
            have := h x (by rw [(hC1 k hlt).2]; exact hlt2)
            rw [Nat.zero_add] at this
            exact ⟨_, this⟩
          have hcvd : wr.drew.cell? ⟨g k, x, none⟩ = some (.int .u8 cv) := hcv
          have svd : wr.drew.cell? ⟨L, k, none⟩ = some (.slice (some ⟨g k, 0, none⟩) (n k) (c k)) := sv
          have fzd : wr.drew.frozen? ⟨g k, x, none⟩ = false := fz
          have svs : ∀ u, (wr.setCell ⟨g k, x, none⟩ u).drew.cell? ⟨L, k, none⟩ = some (.slice (some ⟨g k, 0, none⟩) (n k) (c k)) := fun u => cell_set_far sv ⟨g k, x, none⟩ u (fun e => hLS ⟨k, hlt, e.symm⟩)
          have hxn := HLn.out k hlt
          have MB := fun W => markByte_any W k x _ _ rfl rfl (by omega) (by have := HLn.out k hlt; omega)
          go_wp2_with fail
          go_region_held3 (fun W => W.cell? ⟨L, k, none⟩ = some (.slice (some ⟨g k, 0, none⟩) (n k) (c k)))
            (first | (with_reducible exact svs _) | (with_reducible exact svd) | (with_reducible exact sv))
            (first | (go_at_call 47; (with_reducible refine (MB _).mono ?_); rintro e w' ⟨rfl, rfl⟩))
          go_wp2_with fail
          exact ⟨⟨x + 1, by omega, by go_num, (kb2.trans (kpt_set (S := fun b => ∃ k, k < m ∧ g k = b) wr (g k) x _ ⟨k, hlt, rfl⟩)).trans (kpt_drew _ _), hM2.store hlt hlt2 HN.out⟩, by simp [intOf]; omega⟩
        · obtain rfl : x = n k := by omega
          go_wp2_with fail
          exact ⟨⟨k + 1, by omega, by go_num, kb2, hM2.next⟩, by simp [intOf]; omega⟩
    · obtain rfl : k = m := by omega
      have hA := hM.all
      have hg1 : ∀ j, j < k → g j < v1.heap.size := fun j hj => (hA j hj).1.lt.2
      have hGne : ∀ j, j < k → g j ≠ w.heap.size := fun j hj => by have := HGS.out j hj; omega
      have hGB : w.heap.size < v1.heap.size := Nat.lt_of_lt_of_le (heap_in hG.out) kb.size
      have hG1 : v1.heap[w.heap.size]? = some (.cells (madeCells #[.slice none 0 0] k) 31 (0, 0)) := (kb.block _ (heap_in hG.out) (fun ⟨j, h1, h2⟩ => hGne j h1 h2)).trans hG.out
      have hGr0 : Gr k w.heap.size g c n g c base v1.heap.size v1 0 := ⟨fun j hj _ => (hA j hj).1, fun j hj => absurd hj (Nat.not_lt_zero _), _, hG1, by simp [size_madeCells], fun j hj => absurd hj (Nat.not_lt_zero _)⟩
      have hrow1 := hid (fun j (hj : j < k) => kb.cell (hrow'.out j hj) hLS)
      have kw1 := kv.trans kb
      have HG1 := hid hg1; have HGN := hid hGne; have HA := hid hA
      clear hg1 hGne hA hG1 hG hrow' hM hlt hk hm0 kb kv bv
      go_wp2_with fail
      go_loopw [6] (fun i wr => ∃ (q : Nat) (g' c' : Nat → Nat), q ≤ k ∧ i = .int .i64 q ∧ Kpt (fun b => (∃ j, j < k ∧ g j = b) ∨ b = w.heap.size) v1 wr ∧ Gr k w.heap.size g c n g' c' base v1.heap.size wr q) (fun i _ => k - (intOf i).toNat)
      case atStart => exact ⟨0, g, c, by omega, rfl, Kpt.refl _ _, hGr0⟩
      case round =>
        obtain ⟨q, g', c', hq, rfl, kq, hGr⟩ := hrel
        obtain ⟨v2, rfl⟩ : ∃ v2, v2 = wr := ⟨_, rfl⟩
        by_cases hlt : q < k
        · have hLw : L < w.heap.size := HLt.out q hlt
          have HLw2 := hid hLw
          have sv := kq.cell (hrow1.out q hlt) (by rintro (⟨j, h1, h2⟩ | h1); exact hLS ⟨j, h1, h2⟩; omega)
          have hxn := HLn.out q hlt
          have hOq := hGr.1 q hlt (Nat.le_refl _)
          have hqs := kq.size
          have hLg : ¬ L = g q := fun e => hLS ⟨q, hlt, e.symm⟩
          have HLg := hid hLg
          have HQS := hid hqs; have HGB := hid hGB
          clear hLg hqs hGB hLw
          go_wp2_with fail
          go_loopw [7, 8] (fun s i wr => ∃ (j gg cc : Nat), j ≤ 40 ∧ i = .int .i64 j ∧ s = .slice (some ⟨gg, 0, none⟩) (n q + j) cc ∧ OwnB base wr (some ⟨gg, 0, none⟩) cc (mks q (n q + j)) ∧ (gg = g q ∨ v2.heap.size ≤ gg) ∧ RdB wr (some ⟨g q, 0, none⟩) (mks q (n q)) ∧ Kpt (fun b => b = g q ∨ v2.heap.size ≤ b) v2 wr) (fun _ i _ => 40 - (intOf i).toNat)
          case atStart => exact ⟨0, g q, c q, by omega, rfl, rfl, hOq, .inl rfl, hOq.rd, Kpt.refl _ _⟩
          case round =>
            obtain ⟨j, gg, cc, hj, rfl, rfl, hO, hgg, hR, kj⟩ := hrel
            have Hgg := hid hgg
            clear hgg
            by_cases hlt3 : j < 40
            · have sv2 := kj.cell sv (by have := HLg.out; have := HLw2.out; have := HGB.out; have := HQS.out; omega)
              have MB := fun W => markByte_any W q (n q + j) (q : Int) ((n q : Int) + (j : Int)) rfl (by omega) (by omega) (by omega)
              have hbw : base ≤ wr.heap.size := Nat.le_of_lt (Nat.lt_of_le_of_lt hO.lt.1 hO.lt.2)
              have Hbw := hid hbw
              clear hbw
              go_wp2_with fail
              refine (MB _).mono ?_
              rintro e w' ⟨rfl, rfl⟩
              go_wp2_with (at_builtin; refine app_bytes2 rfl (.tmp 52) (.tmp 62) rfl base (some ⟨gg, 0, none⟩) cc (n q + j) (mks q (n q + j)) (mks_length _ _).symm rfl (hO.below ((Below.refl _ _).alloc (Nat.le_refl _) _)) (some ⟨_, 0, none⟩) 1 1 [mkB q (n q + j)] rfl rfl (RdB.lit _ _ _ _ (by simp [B8s, B8]) rfl) (n q + (j + 1)) (by rw [mks_length]; rfl) (by rw [mks_length]; simp; omega) (by have := Hbw.out; simp; omega) ?_; intro A1 c1 w8 h8 h9; rw [← mks_succ] at h8; obtain ⟨g1, rfl, _⟩ := h8.at_ (by intro e; have := mks_length q (n q + j + 1); rw [e] at this; simp at this))
              go_roundw
              case rel =>
                obtain ⟨k1, k2, k3⟩ := grow_step (j := j + 1) Hgg.out hR kj h8 h9
                exact ⟨j + 1, g1, c1, by omega, by go_num, rfl, h8, k1, k2, k3⟩
              case measure => simp [intOf]; omega
            · obtain rfl : j = 40 := by omega
              have hGr' := hGr
              obtain ⟨_, _, cs, hcs1, hcs2, _⟩ := hGr'
              have hcsr := (kj.block w.heap.size (by have := HGB.out; have := HQS.out; omega) (by have := HGN.out q hlt; have := HGB.out; have := HQS.out; omega)).trans hcs1
              have fz := free_of_rowA hcsr q
              obtain ⟨cvv, cl⟩ : ∃ u, wr.cell? ⟨w.heap.size, q, none⟩ = some u := ⟨cs[q]'(by omega), by rw [cell_of_row _ _ _ _ _ _ hcsr]; simp [hcs2, hlt]⟩
              have kj2 : Kpt (fun b => (∃ j, j < k ∧ g j = b) ∨ b = w.heap.size) v2 wr := ⟨kj.os, kj.tape, kj.output, kj.size, fun j hj hs => kj.block j hj (by rintro (e | e); exact hs (.inl ⟨q, hlt, e.symm⟩); omega)⟩
              clear hcsr hcs1 hcs2
              go_wp2_with fail
              exact ⟨⟨q + 1, upd g' q gg, upd c' q cc, by omega, by go_num, (kq.trans kj2).trans (kpt_set (S := fun b => (∃ j, j < k ∧ g j = b) ∨ b = w.heap.size) wr _ _ _ (.inr rfl)), hGr.step hlt HN.out HGN.out HGB.out HQS.out HG1.out kj hO Hgg.out hR⟩, by simp [intOf]; omega⟩
        · obtain rfl : q = k := by omega
          obtain ⟨_, hB3, cs, hcs1, hcs2, hcs3⟩ := hGr
          have HLq := hid (fun j (hj : j < q) => kq.cell (hrow1.out j hj) (by rintro (⟨i, h1, h2⟩ | h1); exact hLS ⟨i, h1, h2⟩; have := HLt.out j hj; omega))
          have HB3 := hid hB3; have HC1 := hid hcs1; have HC3 := hid hcs3
          have kf := kpt_last kw1 kq (by rintro j hj (e | e); exact e; omega)
          clear hB3 hcs1 hcs2 hcs3 hlt hq hrow1 kq kw1 hGr0
          go_wp2_with fail
          go_loopw [9] (fun i wr => ∃ z : Nat, z ≤ q ∧ i = .int .i64 z ∧ Below v2.heap.size v2 wr) (fun i _ => q - (intOf i).toNat)
          case atStart => exact ⟨0, by omega, rfl, Below.refl _ _⟩
          case round =>
            obtain ⟨z, hz, rfl, bz⟩ := hrel
            obtain ⟨v3, rfl⟩ : ∃ v3, v3 = wr := ⟨_, rfl⟩
            by_cases hlt : z < q
            · have hxn := HLn.out z hlt
              obtain ⟨r1, r2, _, _⟩ := HB3.out z hlt
              have R1 := hid r1; have R2 := hid r2
              clear r1 r2
              go_wp2_with fail
              go_loopw [10] (fun i wr => ∃ x : Nat, x ≤ n z + 40 ∧ i = .int .i64 x ∧ Below v2.heap.size v2 wr) (fun i _ => n z + 40 - (intOf i).toNat)
              case atStart => exact ⟨0, by omega, rfl, bz⟩
              case round =>
                obtain ⟨x, hx, rfl, bx⟩ := hrel
                have sG : wr.cell? ⟨w.heap.size, z, none⟩ = some (.slice (some ⟨g' z, 0, none⟩) (n z + 40) (c' z)) := cell_below bx (by rw [cell_of_row _ _ _ _ _ _ HC1.out]; exact HC3.out z hlt)
                by_cases hlt2 : x < n z + 40
                · have sL := cell_below bx (HLq.out z hlt)
                  have m1 := rd_mks (R2.out.below bx) hlt2
                  have MB := fun W => markByte_any W z x _ _ rfl rfl (by omega) (by omega)
                  by_cases hlt4 : x < n z
                  · have m2 := rd_mks (R1.out.below bx) hlt4
                    have hd : decide ((x : Int) < (n z : Int)) = true := decide_eq_true (by omega)
                    go_wp2_with fail
                    go_quiet ((first | (go_at_call 47; exact Calls.quiet_of_same (MB _))))
                    go_wp2_with fail
                    exact ⟨⟨x + 1, by omega, by go_num, below_drewNA bx _⟩, by simp [intOf]; omega⟩
                  · have hd : decide ((x : Int) < (n z : Int)) = false := decide_eq_false (by omega)
                    go_wp2_with fail
                    go_quiet ((first | (go_at_call 47; exact Calls.quiet_of_same (MB _))))
                    go_wp2_with fail
                    exact ⟨⟨x + 1, by omega, by go_num, below_drewNA bx _⟩, by simp [intOf]; omega⟩
                · obtain rfl : x = n z + 40 := by omega
                  go_wp2_with fail
                  exact ⟨⟨z + 1, by omega, by go_num, bx⟩, by simp [intOf]; omega⟩
            · obtain rfl : z = q := by omega
              go_wp2
              go_ret
              exact ⟨rfl, kf.trans (Kpt.of_below bz)⟩
end Go.Proofs.Ytknhfaplddgnlaa
