/- The walk of DiskSectors. -/
import Derived.Test.YtddejjmebokgiaaLaw04k
namespace Go.Proofs.Ytddejjmebokgiaa
open Go.RowKit
variable {Q : Nat → Prop}
set_option maxHeartbeats 3200000
set_option maxRecDepth 100000
set_option linter.unusedVariables false
set_option linter.unusedSimpArgs false

theorem any_succ {L : List (List UInt8)} {f : List UInt8 → Bool} {j : Nat} (hj : j < L.length) : (L.take (j + 1)).any f = ((L.take j).any f || f (L.getD j [])) := by
  rw [List.take_add_one, List.getElem?_eq_getElem hj, List.any_append, List.getD_eq_getElem?_getD, List.getElem?_eq_getElem hj]
  simp
theorem sec_length {l : List UInt8} (h : l.length = 4096) {q : Nat} (hq : q < 8) : (sec l q).length = 512 := by simp [sec, h]; omega
theorem drewN_below {B : Nat} {a w : World} (h : Below B a w) (n : Nat) : Below B a (w.drewN n) := ⟨h.os, h.tape, h.output, h.size, h.block⟩
theorem DiskSectors_any (w : World) (ws : List Int) (a : Option Addr) (c : Nat) (ks : List Bool) (a2 : Option Addr) (c2 : Nat) (at_ : Int) (s : Nat) (hs : s < 256) (hl : ws.length ≤ 140737488351232) (hr : RdV w a (W64 ws)) (hz : ∀ z ∈ ws, -9223372036854775808 ≤ z ∧ z ≤ 9223372036854775807)
    (hlk : ks.length ≤ 140737488351232) (hrk : RdV w a2 (Bools ks)) :
    Calls Try.prog 3 #[.slice a ws.length c, .slice a2 ks.length c2, .int .i64 at_, .int .u8 (s : Int)] w fun e w' => e = .returned (.bool true) ∧ Below w.heap.size w w' := by
  have AW := awake04_any
  have MA := made_any w ws a c hl hr hz
  obtain ⟨hg, hwn⟩ := mst_good ws (min ws.length 30) (by omega)
  generalize mst ws (min ws.length 30) = d at *
  obtain ⟨L1, L2⟩ := sectors_law hg ks at_ s
  obtain ⟨xF, hxF⟩ : ∃ x, x = d.crash ks at_ s := ⟨_, rfl⟩
  have hxd : xF.down = false := by rw [hxF]; rfl
  have hx4 : xF.now.length = 4 := by rw [hxF]; exact (crS_length _ _ _ _ _).trans (hg.ok.len.trans hg.four)
  have hxn : ∀ n, n < 4 → (xF.now.getD n []).length = 4096 := by
    intro n hn
    have hall : ∀ l ∈ xF.now, l.length = 4096 := by rw [hxF]; exact crS_4 hg.ok ks at_ s _ (Nat.le_refl _)
    rw [List.getD_eq_getElem?_getD, List.getElem?_eq_getElem (by rw [hx4]; exact hn)]
    exact hall _ (List.getElem_mem _)
  have hsl : ∀ n, (snc d n).length ≤ 100 := by
    intro n
    have h1 := List.length_filter_le (fun p => p.1 == n) (d.wn.zip d.wd)
    simp only [snc, List.length_cons, List.length_map]
    rw [List.length_zip] at h1
    omega
  have CR := fun W D S (b : Nat) (h : IsDk AnyB b W D S d) (hr : RdV W a2 (Bools ks)) hka => Crash_is W D h a2 c2 _ ks rfl (by omega) hr hka at_ s hs
  simp only [← hxF] at CR L1 L2
  have RD := fun W D S (b : Nat) (h : IsDk AnyB b W D S xF) (n : Int) => Read_is W D h n
  have hrd : ∀ n : Nat, n < 4 → xF.rdE (n : Int) = 0 ∧ xF.rdB (n : Int) = xF.now.getD n [] := by
    intro n hn
    have hw := wrong_zero (d := xF) (n := n) (by rw [hx4]; exact hn)
    constructor
    · simp only [Dk.rdE, hw, hxd, ne_eq, not_true, if_false, Bool.false_eq_true]
    · simp only [Dk.rdB, hw, hxd, ne_eq, not_true, if_false, Bool.false_eq_true, Int.toNat_natCast]
  have s4 : ∀ n, n < 4 → ∀ j, j < (snc d n).length → ((snc d n).getD j []).length = 4096 := by
    intro n hn j hj
    have hm : (snc d n).getD j [] ∈ snc d n := by
      rw [List.getD_eq_getElem?_getD, List.getElem?_eq_getElem hj]
      exact List.getElem_mem hj
    generalize (snc d n).getD j [] = y at *
    simp only [snc, List.mem_cons, List.mem_map, List.mem_filter] at hm
    rcases hm with rfl | ⟨p, ⟨hp, _⟩, rfl⟩
    · have hns : n < d.safe.length := by rw [hg.ok.len, hg.four]; exact hn
      rw [List.getD_eq_getElem?_getD, List.getElem?_eq_getElem hns]
      exact hg.ok.s4 _ (List.getElem_mem hns)
    · exact hg.ok.w4 _ (List.of_mem_zip hp).2
  have H4 := hid hxn; have HS4 := hid s4; have HSL := hid hsl; have HL1 := hid L1; have HL2 := hid L2; have HRD := hid hrd
  clear hxn s4 hsl L1 L2 hrd hxF hxd hx4 hg hwn
  unfold ptr at *
  go_enter Try.func3, Try.ntmps3
  go_wp2_with fail
  refine MA.mono ?_
  rintro e v1 ⟨D, S1, s1, G, rfl, i1, n1, p1, b1⟩
  have hrk1 := hrk.below b1
  have hka : 0 < ks.length → ∀ x off, a2 = some ⟨x, off, none⟩ → ¬ S1 x := by
    rintro hp x off rfl hS
    have h0 := rd_lt hrk (bools_ne' hp)
    have := (i1.blocks hS).1
    omega
  clear MA hr hz
  go_wp2_with fail
  refine (CR _ _ _ _ i1 hrk1 hka).mono ?_
  rintro e v2 ⟨rfl, t2⟩
  obtain ⟨S2, x2q, k2, z2⟩ := t2
  have x2 : IsDk AnyB w.heap.size v2 D S2 xF := x2q.monoQ (fun _ _ => trivial)
  have n2 := n1.turn p1 i1 k2
  have bb2 := kpt_below' b1 k2 b1.size (fun j hj hs => by have := (i1.blocks hs).1; omega)
  clear x2q n1 p1 i1 k2 z2 hrk1 hka b1 CR
  go_wp2_with fail
  go_loopw [11, 12] (fun p i wr => ∃ k : Nat, k ≤ 4 ∧ i = .int .i64 k ∧ p = .int .i64 (cntF (whF d xF) k : Int) ∧ Below v2.heap.size v2 wr) (fun _ i _ => 4 - (intOf i).toNat)
  case atStart => exact ⟨0, by omega, rfl, rfl, Below.refl _ _⟩
  case round =>
    obtain ⟨k, hk, rfl, rfl, hB⟩ := hrel
    obtain ⟨u0, rfl⟩ : ∃ u0, u0 = wr := ⟨_, rfl⟩
    have hcl := cnt_le (whF d xF) k
    have hcs : cntF (whF d xF) (k + 1) = cntF (whF d xF) k + (if whF d xF k then 0 else 1) := rfl
    by_cases hk4 : k < 4
    · have RK := RD u0 D S2 w.heap.size (x2.below hB) (k : Int)
      obtain ⟨e1, e2⟩ := HRD.out k hk4
      rw [e1, e2] at RK
      have h4 := H4.out k hk4
      have hsec := HL1.out k hk4
      have hwh : whF d xF k = (snc d k).any (fun l => xF.now.getD k [] == l) := rfl
      have hs4k := HS4.out k hk4
      have hslk := HSL.out k
      obtain ⟨off, cap, q1, q2, q3, q4, q5⟩ := n2.at_ hk4
      have hat : ∀ j, j < (snc d k).length → ∃ (b o cc : Nat), v2.cell? ⟨G k, off + j, none⟩ = some (.slice (some ⟨b, o, none⟩) 4096 cc) ∧ RdB v2 (some ⟨b, o, none⟩) ((snc d k).getD j []) ∧ ((snc d k).getD j []).length = 4096 ∧ 4096 ≤ cc ∧ cc ≤ 9223372036854775807 := by
        intro j hj
        obtain ⟨v, hv, hd⟩ := q2.at_ hj
        have e : (snc d k).getD j [] = (snc d k)[j] := by rw [List.getD_eq_getElem?_getD, List.getElem?_eq_getElem hj]; rfl
        have hl := hs4k j hj
        rw [e] at hl ⊢
        obtain ⟨b, o, cc, rfl, hr, _⟩ := hd.rd
        have hcap := hd.cap
        rw [hl] at hv hcap
        exact ⟨b, o, cc, hv, hr, hl, hcap.1, hcap.2⟩
      obtain ⟨X, hX⟩ : ∃ X, X = xF.now.getD k [] := ⟨_, rfl⟩
      obtain ⟨L, hL⟩ : ∃ L, L = snc d k := ⟨_, rfl⟩
      rw [← hX] at RK h4 hsec hwh
      rw [← hL] at hsec hwh hslk hat q1 q2 q3
      obtain ⟨F, hF⟩ : ∃ F, F = L.length := ⟨_, rfl⟩
      rw [← hF] at hslk hat q1 q3
      have HF := hid hF; have HSEC := hid hsec; have HWH := hid hwh; have HAT := hid hat; have HX4 := hid h4; have HCS := hid hcs
      rw [h4] at RK
      clear hs4k hX hL e1 e2 hF hsec hwh hat q2 q4 q5 h4 hcs
      generalize hP : cntF (whF d xF) k = P at *
      have HP := hid hP
      clear hP
      go_wp2_with fail
      refine RK.mono ?_
      rintro e u1 ⟨A1, c1, rfl, g1, b1⟩
      obtain ⟨gx, rfl, hgx1, hgx2⟩ := own_adr g1 (by intro e; have := HX4.out; rw [e] at this; simp at this)
      have hc1 := g1.cap
      rw [HX4.out] at hc1
      have bu1 := hB.trans (b1.mono hB.size)
      have hrX := g1.rd
      have qs := cell_below bu1 q1
      clear RK g1 b1
      go_wp2_with fail
      go_loopw [15, 16] (fun x i wr => ∃ j : Nat, j ≤ F ∧ i = .int .i64 j ∧ x = .bool ((L.take j).any (fun l => X == l)) ∧ Below u1.heap.size u1 wr) (fun _ i _ => F - (intOf i).toNat)
      case atStart => exact ⟨0, by omega, rfl, rfl, Below.refl _ _⟩
      case round =>
        obtain ⟨j, hj, rfl, rfl, hbj⟩ := hrel
        obtain ⟨u2, rfl⟩ : ∃ u2, u2 = wr := ⟨_, rfl⟩
        have qs2 := cell_below hbj qs
        by_cases hjF : j < F
        · obtain ⟨bb, oo, cc, r1, r2, r3, r4, r5⟩ := HAT.out j hjF
          have r1' := cell_below hbj (cell_below bu1 r1)
          have hsu := any_succ (L := L) (f := fun l => X == l) (j := j) (by rw [← HF.out]; exact hjF)
          have SB := SameBytes_any u2 (some ⟨gx, 0, none⟩) (some ⟨bb, oo, none⟩) c1 cc 4096 4096 X (L.getD j []) HX4.out.symm r3.symm (hrX.below hbj) ((r2.below bu1).below hbj)
          have HSU := hid hsu
          clear hsu r1 r2 r3
          rcases hq : (L.take j).any (fun l => X == l)
          · have HQ := hid hq
            clear hq
            go_wp2_with fail
            refine SB.mono ?_
            rintro e u3 ⟨rfl, rfl⟩
            go_wp2_with fail
            exact ⟨⟨j + 1, by omega, by go_num, by rw [HSU.out, HQ.out]; simp, hbj⟩, by simp [intOf]; omega⟩
          · have HQ := hid hq
            clear hq SB
            go_wp2_with fail
            exact ⟨⟨j + 1, by omega, by go_num, by rw [HSU.out, HQ.out]; simp, hbj⟩, by simp [intOf]; omega⟩
        · obtain rfl : F = j := by omega
          have hta : (L.take F).any (fun l => X == l) = whF d xF k := by
            rw [HWH.out, List.take_of_length_le (by rw [← HF.out]; exact Nat.le_refl _)]
          rw [hta]
          clear hta hjF
          rcases hw : whF d xF k
          · have hcs2 : cntF (whF d xF) (k + 1) = P + 1 := by rw [HCS.out, hw]; rfl
            have HCS2 := hid hcs2
            clear hcs2
            have HW := hid hw
            clear hw
            go_wp2_with fail
            go_loopw [17] (fun i wr => ∃ q : Nat, q ≤ 8 ∧ i = .int .i64 q ∧ Below u1.heap.size u1 wr) (fun i _ => 8 - (intOf i).toNat)
            case atStart => exact ⟨0, by omega, rfl, hbj⟩
            case round =>
              obtain ⟨q, hq8, rfl, hbq⟩ := hrel
              obtain ⟨u3, rfl⟩ : ∃ u3, u3 = wr := ⟨_, rfl⟩
              by_cases hlt8 : q < 8
              · have hsq := HSEC.out q hlt8
                have HSQ := hid hsq
                clear hsq
                have hlx := sec_length HX4.out hlt8
                have HLX := hid hlx
                clear hlx
                go_wp2_with fail
                go_loopw [18, 19] (fun x i wr => ∃ j : Nat, j ≤ F ∧ i = .int .i64 j ∧ x = .bool ((L.take j).any (fun l => sec X q == sec l q)) ∧ Below u1.heap.size u1 wr) (fun _ i _ => F - (intOf i).toNat)
                case atStart => exact ⟨0, by omega, rfl, rfl, hbq⟩
                case round =>
                  obtain ⟨j, hj, rfl, rfl, hbz⟩ := hrel
                  obtain ⟨u4, rfl⟩ : ∃ u4, u4 = wr := ⟨_, rfl⟩
                  have qs4 := cell_below hbz qs
                  by_cases hjF : j < F
                  · obtain ⟨bb, oo, cc, r1, r2, r3, r4, r5⟩ := HAT.out j hjF
                    have r1' := cell_below hbz (cell_below bu1 r1)
                    have hsu := any_succ (L := L) (f := fun l => sec X q == sec l q) (j := j) (by rw [← HF.out]; exact hjF)
                    have rs1 := (hrX.below hbz).part (q * 512) 512
                    have rs2 := ((r2.below bu1).below hbz).part (q * 512) 512
                    rw [Nat.zero_add] at rs1
                    have l2 := sec_length r3 hlt8
                    have SB := fun n => SameBytes_any (u4.drewN n) (some ⟨gx, q * 512, none⟩) (some ⟨bb, oo + q * 512, none⟩) (c1 - q * 512) (cc - q * 512) ((q + 1) * 512 - q * 512) ((q + 1) * 512 - q * 512) (sec X q) (sec (L.getD j []) q) (by rw [HLX.out]; omega) (by rw [l2]; omega) rs1 rs2
                    have SB2 := fun n => (SB n).mono (R' := fun e w' => e = .returned (.bool (sec X q == sec (L.getD j []) q)) ∧ w' = u4.drewN n) (fun e w' h => ⟨h.1, h.2.symm⟩)
                    have HSU := hid hsu
                    have hcx1 : 4096 ≤ c1 := hc1.1
                    have hcx2 : c1 ≤ 9223372036854775807 := hc1.2
                    clear hsu r1 r2 r3 SB l2
                    rcases hz : (L.take j).any (fun l => sec X q == sec l q)
                    · have HZ := hid hz
                      clear hz
                      go_wp2_with fail
                      go_quiet ((first | (go_at_call 13; exact Calls.quiet_of_same (SB2 _))))
                      go_wp2_with fail
                      have P1 : (L.take (j + 1)).any (fun l => sec X q == sec l q) = (sec X q == sec (L.getD j []) q) := by rw [HSU.out, HZ.out]; simp
                      have HP1 := hid P1
                      clear P1
                      exact ⟨⟨j + 1, by omega, by go_num, by rw [HP1.out, List.getD_eq_getElem?_getD], drewN_below hbz _⟩, by simp [intOf]; omega⟩
                    · have HZ := hid hz
                      clear hz SB2
                      go_wp2_with fail
                      go_quiet (fail)
                      go_wp2_with fail
                      exact ⟨⟨j + 1, by omega, by go_num, by rw [HSU.out, HZ.out]; simp, drewN_below hbz _⟩, by simp [intOf]; omega⟩
                  · obtain rfl : F = j := by omega
                    have hta : (L.take F).any (fun l => sec X q == sec l q) = true := by
                      rw [List.take_of_length_le (by rw [← HF.out]; exact Nat.le_refl _)]
                      exact HSQ.out
                    rw [hta]
                    clear hta hjF
                    go_wp2_with fail
                    exact ⟨⟨q + 1, by omega, by go_num, hbz⟩, by simp [intOf]; omega⟩
              · obtain rfl : q = 8 := by omega
                go_wp2_with fail
                exact ⟨⟨k + 1, by omega, by go_num, by rw [HCS2.out]; go_num, bu1.trans (hbq.mono bu1.size)⟩, by simp [intOf]; omega⟩
          · have hcs2 : cntF (whF d xF) (k + 1) = P := by rw [HCS.out, hw]; rfl
            have HCS2 := hid hcs2
            clear hcs2
            have HW := hid hw
            clear hw
            go_wp2_with fail
            go_loopw [17] (fun i wr => ∃ q : Nat, q ≤ 8 ∧ i = .int .i64 q ∧ Below u1.heap.size u1 wr) (fun i _ => 8 - (intOf i).toNat)
            case atStart => exact ⟨0, by omega, rfl, hbj⟩
            case round =>
              obtain ⟨q, hq8, rfl, hbq⟩ := hrel
              obtain ⟨u3, rfl⟩ : ∃ u3, u3 = wr := ⟨_, rfl⟩
              by_cases hlt8 : q < 8
              · have hsq := HSEC.out q hlt8
                have HSQ := hid hsq
                clear hsq
                have hlx := sec_length HX4.out hlt8
                have HLX := hid hlx
                clear hlx
                go_wp2_with fail
                go_loopw [18, 19] (fun x i wr => ∃ j : Nat, j ≤ F ∧ i = .int .i64 j ∧ x = .bool ((L.take j).any (fun l => sec X q == sec l q)) ∧ Below u1.heap.size u1 wr) (fun _ i _ => F - (intOf i).toNat)
                case atStart => exact ⟨0, by omega, rfl, rfl, hbq⟩
                case round =>
                  obtain ⟨j, hj, rfl, rfl, hbz⟩ := hrel
                  obtain ⟨u4, rfl⟩ : ∃ u4, u4 = wr := ⟨_, rfl⟩
                  have qs4 := cell_below hbz qs
                  by_cases hjF : j < F
                  · obtain ⟨bb, oo, cc, r1, r2, r3, r4, r5⟩ := HAT.out j hjF
                    have r1' := cell_below hbz (cell_below bu1 r1)
                    have hsu := any_succ (L := L) (f := fun l => sec X q == sec l q) (j := j) (by rw [← HF.out]; exact hjF)
                    have rs1 := (hrX.below hbz).part (q * 512) 512
                    have rs2 := ((r2.below bu1).below hbz).part (q * 512) 512
                    rw [Nat.zero_add] at rs1
                    have l2 := sec_length r3 hlt8
                    have SB := fun n => SameBytes_any (u4.drewN n) (some ⟨gx, q * 512, none⟩) (some ⟨bb, oo + q * 512, none⟩) (c1 - q * 512) (cc - q * 512) ((q + 1) * 512 - q * 512) ((q + 1) * 512 - q * 512) (sec X q) (sec (L.getD j []) q) (by rw [HLX.out]; omega) (by rw [l2]; omega) rs1 rs2
                    have SB2 := fun n => (SB n).mono (R' := fun e w' => e = .returned (.bool (sec X q == sec (L.getD j []) q)) ∧ w' = u4.drewN n) (fun e w' h => ⟨h.1, h.2.symm⟩)
                    have HSU := hid hsu
                    have hcx1 : 4096 ≤ c1 := hc1.1
                    have hcx2 : c1 ≤ 9223372036854775807 := hc1.2
                    clear hsu r1 r2 r3 SB l2
                    rcases hz : (L.take j).any (fun l => sec X q == sec l q)
                    · have HZ := hid hz
                      clear hz
                      go_wp2_with fail
                      go_quiet ((first | (go_at_call 13; exact Calls.quiet_of_same (SB2 _))))
                      go_wp2_with fail
                      have P1 : (L.take (j + 1)).any (fun l => sec X q == sec l q) = (sec X q == sec (L.getD j []) q) := by rw [HSU.out, HZ.out]; simp
                      have HP1 := hid P1
                      clear P1
                      exact ⟨⟨j + 1, by omega, by go_num, by rw [HP1.out, List.getD_eq_getElem?_getD], drewN_below hbz _⟩, by simp [intOf]; omega⟩
                    · have HZ := hid hz
                      clear hz SB2
                      go_wp2_with fail
                      go_quiet (fail)
                      go_wp2_with fail
                      exact ⟨⟨j + 1, by omega, by go_num, by rw [HSU.out, HZ.out]; simp, drewN_below hbz _⟩, by simp [intOf]; omega⟩
                  · obtain rfl : F = j := by omega
                    have hta : (L.take F).any (fun l => sec X q == sec l q) = true := by
                      rw [List.take_of_length_le (by rw [← HF.out]; exact Nat.le_refl _)]
                      exact HSQ.out
                    rw [hta]
                    clear hta hjF
                    go_wp2_with fail
                    exact ⟨⟨q + 1, by omega, by go_num, hbz⟩, by simp [intOf]; omega⟩
              · obtain rfl : q = 8 := by omega
                go_wp2_with fail
                exact ⟨⟨k + 1, by omega, by go_num, by rw [HCS2.out], bu1.trans (hbq.mono bu1.size)⟩, by simp [intOf]; omega⟩
    · obtain rfl : k = 4 := by omega
      have hp := HL2.out
      have bw := bb2.trans (hB.mono bb2.size)
      generalize cntF (whF d xF) 4 = P at *
      have hd : decide ((P : Int) ≤ 1) = true := decide_eq_true (by omega)
      go_wp2_with fail
      refine (AW _).mono ?_
      rintro e u5 ⟨rfl, b5⟩
      go_wp2
      go_ret
      exact ⟨rfl, bw.trans (b5.mono bw.size)⟩
end Go.Proofs.Ytddejjmebokgiaa
