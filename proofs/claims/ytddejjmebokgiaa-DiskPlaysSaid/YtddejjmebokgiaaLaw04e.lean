/- The walk of DiskLoads. -/
import Derived.Test.YtddejjmebokgiaaLaw04d
namespace Go.Proofs.Ytddejjmebokgiaa
open Go.RowKit
set_option maxHeartbeats 3200000
set_option maxRecDepth 100000
set_option linter.unusedVariables false
set_option linter.unusedSimpArgs false

theorem xor_one (x : UInt8) : ∃ y : UInt8, bits .xor .u8 (x.toNat : Int) 1 = (y.toNat : Int) := by
  have h : ∀ n, n < 256 → bits .xor .u8 ((n : Nat) : Int) 1 = ((n ^^^ 1 : Nat) : Int) ∧ n ^^^ 1 < 256 := by decide +kernel
  obtain ⟨h1, h2⟩ := h x.toNat x.toNat_lt
  exact ⟨UInt8.ofNat (x.toNat ^^^ 1), by rw [h1, UInt8.toNat_ofNat_of_lt' h2]⟩
theorem chunks_flat {b : List UInt8} : ∀ {m : Nat}, b.length = 4096 * m → (chunks b m).flatten = b := by
  intro m hm
  have h : ∀ k, k ≤ m → (chunks b k).flatten = b.take (4096 * k) := by
    intro k hk
    induction k with
    | zero => simp [chunks]
    | succ k ih =>
      have e : chunks b (k + 1) = chunks b k ++ [(b.drop (k * 4096)).take 4096] := by simp [chunks, List.range_succ]
      rw [e, List.flatten_append, ih (by omega), List.flatten_cons, List.flatten_nil, List.append_nil, Nat.mul_comm k 4096, show 4096 * (k + 1) = 4096 * k + 4096 by omega, List.take_add]
  rw [h m (Nat.le_refl _), ← hm, List.take_length]
theorem DiskLoads_any (w : World) (a : Option Addr) (c : Nat) (b : List UInt8) (hl : b.length ≤ 140737488351232) (hr : RdB w a b) :
    Calls Try.prog 5 #[.slice a b.length c] w fun e w' => e = .returned (.bool true) ∧ Below w.heap.size w w' := by
  have AW := awake04_any
  by_cases hbig : 40000 < b.length
  · go_enter Try.func5, Try.ntmps5
    go_wp2_with fail
    refine (AW _).mono ?_
    rintro e w1 ⟨rfl, b1⟩
    go_wp2
    go_ret
    exact ⟨rfl, b1⟩
  · obtain ⟨N, hN⟩ : ∃ N, N = b.length := ⟨_, rfl⟩
    have C := CopyBytes_any w a c N b hN (by omega) hr
    rw [← hN] at hbig hl ⊢
    have HN := hid hN
    clear hN
    have hq : Int.tdiv (N : Int) 4096 = ((N / 4096 : Nat) : Int) := by rw [Int.tdiv_eq_ediv_of_nonneg (by omega)]; rfl
    have hq2 : Int.tmod (N : Int) 4096 = ((N % 4096 : Nat) : Int) := by rw [Int.tmod_eq_emod_of_nonneg (by omega)]; rfl
    by_cases hbad : N = 0 ∨ N % 4096 ≠ 0
    · have LB := fun w' A1 c1 => Load_bad w' A1 N c1 (by omega) (by omega)
      clear hq
      go_enter Try.func5, Try.ntmps5
      go_wp2_with fail
      refine C.mono ?_
      rintro e w1 ⟨A1, c1, rfl, g1, b1⟩
      go_wp2_with fail
      refine (LB w1 A1 c1).mono ?_
      rintro e w1' ⟨rfl, rfl⟩
      clear LB C
      go_wp2_with fail
      go_loopw [6] (fun i wr => ∃ (k : Nat) (L : List UInt8), k ≤ N ∧ i = .int .i64 k ∧ L.length = N ∧ OwnB w.heap.size wr A1 c1 L ∧ Below w.heap.size w wr) (fun i _ => N - (intOf i).toNat)
      case atStart => exact ⟨0, b, by omega, rfl, HN.out.symm, g1, b1⟩
      case round =>
        obtain ⟨k, L, hk, rfl, hL, hO, hB⟩ := hrel
        by_cases hlt : k < N
        · obtain ⟨g, rfl, hgb, hc, hf⟩ := hO.at_ (by intro e; rw [e] at hL; simp at hL; omega)
          have c0 := hc k (by omega)
          have f0 := hf k
          obtain ⟨y, hy⟩ := xor_one (bat L k)
          have st := hO.store k y
          have HST := hid st; have HL := hid hL; have HY := hid hy
          clear hc hf hO st hL hy
          go_wp2_with fail
          rw [HY.out]
          exact ⟨⟨k + 1, L.set k y, by omega, by go_num, by rw [List.length_set]; exact HL.out, HST.out, hB.setCell (p := ⟨g, k, none⟩) hgb _⟩, by simp [intOf]; omega⟩
        · obtain rfl : k = N := by omega
          clear hO hL
          by_cases h0 : k = 0
          · subst h0
            go_wp2_with fail
            refine (AW _).mono ?_
            rintro e w2 ⟨rfl, b2⟩
            go_wp2
            go_ret
            exact ⟨rfl, hB.trans (b2.mono hB.size)⟩
          · have hr0 : k % 4096 ≠ 0 := by omega
            have hd1 : ((k : Int) == 0) = false := by simp; omega
            have hd2 : (((k % 4096 : Nat) : Int) != 0) = true := by simp; omega
            have hd3 : ((k : Int) % 4096 != 0) = true := by simp; omega
            go_wp2_with fail
            refine (AW _).mono ?_
            rintro e w2 ⟨rfl, b2⟩
            go_wp2
            go_ret
            exact ⟨rfl, hB.trans (b2.mono hB.size)⟩
    · obtain ⟨m, hm⟩ : ∃ m, m = N / 4096 := ⟨_, rfl⟩
      have hNm : N = 4096 * m := by omega
      have h1 : 1 ≤ m := by omega
      have h2 : m ≤ 512 := by omega
      have hlen : b.length = 4096 * m := by rw [← hNm]; exact HN.out.symm
      subst hNm
      have hd1 : ((4096 * (m : Int)) == 0) = false := by simp; omega
      have hq3 : Int.tdiv (4096 * (m : Int)) 4096 = m := by rw [Int.mul_comm]; exact Int.mul_tdiv_cancel _ (by decide)
      have hq4 : Int.tmod (4096 * (m : Int)) 4096 = 0 := by rw [Int.mul_comm]; exact Int.mul_tmod_left _ _
      have LD := fun w' g c1 (hr : RdB w' (some ⟨g, 0, none⟩) b) => Load_any w' g 0 c1 b m h1 h2 hlen hr
      obtain ⟨d, hd⟩ : ∃ d, d = mkDk (chunks b m) := ⟨_, rfl⟩
      have hdl : d.now.length = m := by rw [hd]; simp [mkDk, chunks]
      have hdf : d.now.flatten = b := by rw [hd]; exact chunks_flat hlen
      obtain ⟨dx, hdx⟩ : ∃ dx, dx = d.crash [] (-1) 0 := ⟨_, rfl⟩
      have hxl : dx.now.length = m := by rw [hdx, hd]; simp [mkDk, chunks, Dk.crash, Dk.crS]
      have hxf : dx.now.flatten = b := by rw [hdx, hd]; exact chunks_flat hlen
      rw [← hd] at LD
      have HLEN := hid hlen
      have HDX := hid hdx
      clear hm hbad hq hq2 hlen hd hdx
      go_enter Try.func5, Try.ntmps5
      go_wp2_with fail
      refine C.mono ?_
      rintro e w1 ⟨A1, c1, rfl, g1, b1⟩
      obtain ⟨g, rfl, hgb, hglt⟩ := own_adr g1 (by intro e; have := HLEN.out; rw [e] at this; simp at this; omega)
      go_wp2_with fail
      refine (LD w1 g c1 g1.rd).mono ?_
      rintro e w2 ⟨D, S, rfl, i2, b2⟩
      have g2 := g1.below b2
      have bb2 := b1.trans (b2.mono b1.size)
      have HSl := hid (fun b (hb : S b) => (i2.blocks hb).1)
      clear LD C g1
      unfold ptr
      go_wp2_with fail
      go_loopw [6] (fun i wr => ∃ (k : Nat) (L : List UInt8), k ≤ 4096 * m ∧ i = .int .i64 k ∧ L.length = 4096 * m ∧ OwnB w.heap.size wr (some ⟨g, 0, none⟩) c1 L ∧ IsDk (fun b => w1.heap.size ≤ b) w1.heap.size wr D S d ∧ Below w.heap.size w wr) (fun i _ => 4096 * m - (intOf i).toNat)
      case atStart => exact ⟨0, b, by omega, rfl, HLEN.out, g2, i2, bb2⟩
      case round =>
        obtain ⟨k, L, hk, rfl, hL, hO, hI, hB⟩ := hrel
        by_cases hlt : k < 4096 * m
        · obtain ⟨g', e, _, hc, hf⟩ := hO.at_ (by intro e; rw [e] at hL; simp at hL; omega)
          simp only [Option.some.injEq, Addr.mk.injEq, and_true] at e
          subst e
          have c0 := hc k (by omega)
          have f0 := hf k
          obtain ⟨y, hy⟩ := xor_one (bat L k)
          have st := hO.store k y
          have hI2 := hI.kptQ (kpt_one (g := g) (i := k) (.int .u8 (y.toNat : Int))) (fun b hb e => by have : w1.heap.size ≤ b := hb; omega) (fun b hb e => by have := HSl.out b hb; omega)
          have HST := hid st; have HL := hid hL; have HY := hid hy; have HI2 := hid hI2
          clear hc hf hO st hL hy hI hI2
          go_wp2_with fail
          rw [HY.out]
          exact ⟨⟨k + 1, L.set k y, by omega, by go_num, by rw [List.length_set]; exact HL.out, HST.out, HI2.out, hB.setCell (p := ⟨g, k, none⟩) hgb _⟩, by simp [intOf]; omega⟩
        · obtain rfl : k = 4096 * m := by omega
          have SZ := fun w' h => Size_is w' D (Q := fun b => w1.heap.size ≤ b) (base := w1.heap.size) (S := S) (d := d) h
          have IM := fun w' h => Image_is w' D (Q := fun b => w1.heap.size ≤ b) (base := w1.heap.size) (S := S) (d := d) h
          have CR := fun w' h => Crash_is w' D (Q := fun b => w1.heap.size ≤ b) (base := w1.heap.size) (S := S) (d := d) h none 0 0 [] rfl (by decide) (RdV.nil _ _) (by rintro _ x off e; cases e) (-1) 0 (by decide)
          simp only [hdl] at SZ IM
          simp only [hdf] at IM
          simp only [← HDX.out] at CR
          unfold ptr at SZ IM CR
          clear hO hL
          have hr1 := hr.below hB
          go_wp2_with fail
          refine (SZ _ hI).mono ?_
          rintro e v1 ⟨rfl, rfl⟩
          go_wp2_with fail
          refine (IM _ hI).mono ?_
          rintro e v2 ⟨A2, c2, rfl, g2, bv2⟩
          have hI2 := hI.below bv2
          have hr2 := hr1.below bv2
          have hB2 := hB.trans (bv2.mono hB.size)
          have SB := SameBytes_self v2 A2 a c2 c (4096 * m) (4096 * m) b HLEN.out.symm HLEN.out.symm g2.rd hr2
          clear SZ IM hI hr1 hB
          go_wp2_with fail
          refine SB.mono ?_
          rintro e v3 ⟨rfl, rfl⟩
          clear SB g2 bv2
          go_wp2_with fail
          refine (CR _ hI2).mono ?_
          rintro e v4 ⟨rfl, t4⟩
          obtain ⟨S', hI4, k4, s4⟩ := t4
          have hB4 := kpt_below' hB2 k4 hB2.size (fun j hj hs => by have := HSl.out j hs; have := b1.size; omega)
          have hr4 := hr.below hB4
          have IM := Image_is v4 D hI4
          rw [hxl, hxf] at IM
          unfold ptr at IM
          clear CR hI2 hr2 hB2 k4 s4 hI4
          go_wp2_with fail
          refine IM.mono ?_
          rintro e v5 ⟨A5, c5, rfl, g5, bv5⟩
          have hB5 := hB4.trans (bv5.mono hB4.size)
          have SB := SameBytes_self v5 A5 a c5 c (4096 * m) (4096 * m) b HLEN.out.symm HLEN.out.symm g5.rd (hr4.below bv5)
          clear IM hB4 hr4 g5 bv5
          go_wp2_with fail
          refine SB.mono ?_
          rintro e v6 ⟨rfl, rfl⟩
          clear SB
          go_wp2_with fail
          refine (AW _).mono ?_
          rintro e v7 ⟨rfl, b7⟩
          go_wp2
          go_ret
          exact ⟨rfl, hB5.trans (b7.mono hB5.size)⟩
end Go.Proofs.Ytddejjmebokgiaa
