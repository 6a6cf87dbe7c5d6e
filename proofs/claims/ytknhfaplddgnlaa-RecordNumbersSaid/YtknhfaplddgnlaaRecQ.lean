/- The document's head (printed by gen06i.py). -/
import Derived.Test.YtknhfaplddgnlaaRecP
namespace Go.Proofs.Ytknhfaplddgnlaa
open Go.RowKit
set_option maxHeartbeats 1000000
set_option maxRecDepth 100000
set_option linter.unusedVariables false
set_option linter.unusedSimpArgs false

def lenV : Value → Nat
  | .slice _ n _ => n
  | _ => 0
theorem rightG_out {ep seq : Int} {ims : List Img} (h : rightG ep seq ims = true) : 1 ≤ ep ∧ ep ≤ 8388608 ∧ 1 ≤ seq ∧ seq ≤ 549755813888 ∧ 1 ≤ ims.length ∧ ims.length ≤ 32 ∧ okP ims := of_decide_eq_true h
theorem refHead_any (w : World) (E Q : Nat) (a : Option Addr) (N c : Nat) (ims : List Img) (hN : N = ims.length) (hr : RdG w a ims) (hR : rightG (E : Int) (Q : Int) ims = true) :
    Calls Try.prog 44 #[.agg #[.int .i64 (E : Int), .int .i64 (Q : Int), .slice a N c]] w fun e w' => ∃ A c', e = .returned (.slice A 4096 c') ∧ OwnB w.heap.size w' A c' (headB E Q ims) ∧ Below w.heap.size w w' := by
  obtain ⟨h1, h2, h3, h4, h5, h6, hok⟩ := rightG_out hR
  have hb0 : Below w.heap.size w (w.alloc (.cells #[.int .i64 (E : Int), .int .i64 (Q : Int), .slice a N c] 28)) := (Below.refl _ _).alloc (Nat.le_refl _) _
  have hrow0 := heap_alloc_new w (.cells #[.int .i64 (E : Int), .int .i64 (Q : Int), .slice a N c] 28)
  have hz0 : (w.alloc (.cells #[.int .i64 (E : Int), .int .i64 (Q : Int), .slice a N c] 28)).heap.size = w.heap.size + 1 := by simp
  obtain ⟨w0, hw0⟩ : ∃ w0, w0 = w.alloc (.cells #[.int .i64 (E : Int), .int .i64 (Q : Int), .slice a N c] 28) := ⟨_, rfl⟩
  rw [← hw0] at hrow0 hz0 hb0
  have HW := hid hw0; have HB0 := hid hb0; have HN := hid hN; have HOK := hid hok
  have hN32 : N ≤ 32 := by omega
  have hN1 : 1 ≤ N := by omega
  clear hw0 hok hN h5 h6
  go_enter Try.func44, Try.ntmps44
  go_wp2_with fail
  rw [← HW.out]
  clear HW
  go_loopw [3, 4] (fun s i wr => ∃ (k : Nat) (A : Option Addr) (c' n : Nat), k ≤ N ∧ i = .int .i64 k ∧ n = 66 * k ∧ s = .slice A n c' ∧ OwnB w0.heap.size wr A c' (tabB (ims.take k)) ∧ Below w0.heap.size w0 wr) (fun _ i _ => N - (intOf i).toNat)
  case atStart => exact ⟨0, none, 0, 0, Nat.zero_le _, rfl, rfl, rfl, OwnB.nil _ _, Below.refl _ _⟩
  case round => as_aux_lemma =>
    obtain ⟨k, A, c', n, hk, rfl, hn, rfl, ho, hb⟩ := hrel
    have hrow := (hb.block _ (heap_in hrow0)).trans hrow0
    have hg2 := (cells3 hrow).2.2
    have hbz := HB0.out.trans (hb.mono HB0.out.size)
    have hll : (tabB (ims.take k)).length = n := by rw [tabB_length, List.length_take]; have := HN.out; omega
    have HNN := hid hn; have HLL := hid hll; have HB := hid hb; have HBZ := hid hbz; have HO := hid ho
    by_cases hlt : k < N
    · obtain ⟨x, hx⟩ : ∃ x, ims[k]? = some x := ⟨ims[k]'(by rw [← HN.out]; exact hlt), List.getElem?_eq_getElem _⟩
      have hxm := HOK.out.1 x (List.mem_of_getElem? hx)
      obtain ⟨b, off, Ax, cc, rfl, c0, c1, hrx, hcc⟩ := (hr.below hbz) k x hx
      have ht := take_snoc ims k x hx
      have HT := hid ht
      obtain ⟨xb, xd⟩ := x
      simp only at c0 c1 hcc hxm hrx
      obtain ⟨hx1, hx2, hx4⟩ := hxm
      obtain ⟨j, rfl⟩ := Int.eq_ofNat_of_zero_le hx1
      obtain ⟨bx, ox, eA, -⟩ := hrx.at_ (by intro e; rw [e] at hx4; exact absurd hx4 (by decide))
      subst eA
      have e2 : IntKind.u64.wrap (j : Int) = (j : Int) := IntWalk.u64_in _ (by omega)
      have AD := refAdd_any wr A c' n (tabB (ims.take k)) hll.symm j 2 (j : Int) rfl (by rw [hll]; omega) ho.rd (by omega) (by omega)
      have HX4 := hid hx4; have HX := hid hx
      have HRX := hid hrx
      rw [hx4] at c1 hcc
      clear ht hx ho hb hbz hll hn hrow hx4 hrx
      go_wp2_with fail
      refine AD.mono ?_
      rintro e w2 ⟨A1, c1', rfl, ho2, b2⟩
      clear AD hg2 c0 c1
      have hn2 : (tabB (ims.take k) ++ be j 2).length = n + 2 := by rw [List.length_append, HLL.out, be_length]
      have hbs := HB.out.size
      have hb2 : Below w0.heap.size w0 w2 := HB.out.trans (b2.mono hbs)
      have ho2' := ho2.mono hbs
      have HO2 := hid ho2'; have HB2 := hid hb2; have HN2 := hid hn2
      clear hn2 hb2 ho2 ho2' b2
      go_wp2_with fail
      go_loopw [3, 5] (fun s i wr => ∃ (q : Nat) (A : Option Addr) (c' m : Nat), q ≤ 8 ∧ i = .int .i64 q ∧ m = n + 2 + 8 * q ∧ s = .slice A m c' ∧ OwnB w0.heap.size wr A c' (tabB (ims.take k) ++ be j 2 ++ hidTo xd q) ∧ Below w0.heap.size w0 wr) (fun _ i _ => 8 - (intOf i).toNat)
      case atStart => exact ⟨0, A1, c1', n + 2, Nat.zero_le _, rfl, rfl, rfl, by rw [hidTo_zero, List.append_nil]; exact HO2.out, HB2.out⟩
      case round => as_aux_lemma =>
        obtain ⟨q, A, c', m, hq, rfl, hm, rfl, ho, hb⟩ := hrel
        have hrow := (hb.block _ (heap_in hrow0)).trans hrow0
        have hg2 := (cells3 hrow).2.2
        have hbz := HB0.out.trans (hb.mono HB0.out.size)
        by_cases hlq : q < 8
        · obtain ⟨b', off', Ax', cc', e0, _, c1, hrx, hcc2⟩ := (hr.below hbz) k ((j : Int), xd) HX.out
          have e0 := Option.some.inj e0
          simp only [Addr.mk.injEq, and_true] at e0
          obtain ⟨rfl, rfl⟩ := e0
          simp only at c1 hrx hcc2
          rw [HX4.out] at c1 hcc2
          obtain ⟨bx', ox', eA, -⟩ := hrx.at_ (by intro e; have := HX4.out; rw [e] at this; exact absurd this (by decide))
          subst eA
          have hcc' : 4096 ≤ cc' ∧ cc' ≤ 9223372036854775807 := hcc2
          have hrp := hrx.part (q * 512) 8
          have hlp : ((xd.drop (q * 512)).take 8).length = 8 := part_length _ _ _ (by rw [HX4.out]; omega)
          have hlm : (tabB (ims.take k) ++ be j 2 ++ hidTo xd q).length = m := by rw [List.length_append, List.length_append, HLL.out, be_length, hidTo_length]; omega
          have hsu := hidTo_succ xd q HX4.out hlq
          generalize hpd : (xd.drop (q * 512)).take 8 = pd at *
          generalize hld : tabB (ims.take k) ++ be j 2 ++ hidTo xd q = ld at *
          have HSU := hid hsu; have HLD := hid hld
          have hbs := hb.size
          have hmb : m ≤ 10000 := by have := HNN.out; omega
          have HM := hid hm
          clear hsu hpd hld hm
          go_wp2_with (at_builtin; refine app_bytes rfl (.tmp 29) (.tmp 41) rfl w0.heap.size A c' m ld hlm.symm rfl ho _ _ _ pd rfl (by rw [hlp]; omega) hrp (m + 8) (by omega) (by omega) w0 hb hbs ?_; intro A1 c1 w2 ho2 hb2 _ _; have HO2 := hid ho2; have HBB2 := hid hb2; clear ho2 hb2)
          go_roundw
          case rel =>
            refine ⟨q + 1, A1, c1, m + 8, by omega, by go_num, by have := HM.out; omega, rfl, ?_, HBB2.out⟩
            have := HO2.out
            rw [← HLD.out, List.append_assoc, HSU.out] at this
            exact this
          case measure => simp [intOf]; omega
        · obtain rfl : q = 8 := by omega
          have hf : tabB (ims.take k) ++ be j 2 ++ hidTo xd 8 = tabB (ims.take (k + 1)) := by
            rw [HT.out, tabB_snoc]
            rfl
          rw [hf] at ho
          have HFO := hid ho; have HFB := hid hb; have HM := hid hm
          clear ho hb hm hf hbz hrow
          go_wp2_with fail
          go_roundw
          case rel => exact ⟨k + 1, A, c', m, by omega, by go_num, by have := HM.out; have := HNN.out; omega, rfl, HFO.out, HFB.out⟩
          case measure => simp [intOf]; omega
    · obtain rfl : k = N := by omega
      rw [List.take_of_length_le (by rw [HN.out]; exact Nat.le_refl _)] at ho hll
      have HO := hid ho; have HLL := hid hll
      clear ho hll hn hb hbz hrow
      go_wp2_with fail
      have HBB := hid (show Below w0.heap.size w0 wr from HB.out)
      go_loopw [3] (fun s wr => ∃ (m : Nat) (A : Option Addr) (c' : Nat), n ≤ m ∧ m ≤ 4026 ∧ s = .slice A m c' ∧ OwnB w0.heap.size wr A c' (tabB ims ++ zeros (m - n)) ∧ Below w0.heap.size w0 wr) (fun s _ => 4026 - lenV s)
      case atStart => exact ⟨n, A, c', Nat.le_refl _, by have := HNN.out; omega, rfl, by simpa [zeros] using HO.out, HBB.out⟩
      case round => as_aux_lemma =>
        obtain ⟨m, A, c', hm1, hm2, rfl, ho, hb⟩ := hrel
        have hlm : (tabB ims ++ zeros (m - n)).length = m := by rw [List.length_append, HLL.out, zeros_length]; omega
        have hbs := hb.size
        by_cases hlt2 : m < 4026
        · have hz : tabB ims ++ zeros (m - n) ++ [0] = tabB ims ++ zeros (m + 1 - n) := by
            rw [List.append_assoc, show m + 1 - n = (m - n) + 1 by omega]
            simp [zeros, List.replicate_succ']
          generalize tabB ims ++ zeros (m - n) = ld at *
          have HZ := hid hz
          clear hz
          go_wp2_with (at_builtin; refine app_bytes rfl (.tmp 46) (.tmp 47) rfl w0.heap.size A c' m ld hlm.symm rfl (ho.below ((Below.refl _ _).alloc (Nat.le_refl _) _)) (some ⟨wr.heap.size, 0, none⟩) 1 1 [(0 : UInt8)] rfl rfl (RdV.one (v := B8 _)) (m + 1) (by rw [hlm]; rfl) (by rw [hlm]; simp; omega) w0 (hb.alloc hbs _) (by simp; omega) ?_; intro A1 c1 w2 ho2 hb2 _ _; have HO2 := hid ho2; have HBB2 := hid hb2; clear ho2 hb2)
          go_roundw
          case rel => exact ⟨m + 1, A1, c1, by omega, by omega, rfl, by have := HO2.out; rwa [HZ.out] at this, HBB2.out⟩
          case measure => simp [lenV]; omega
        · obtain rfl : m = 4026 := by omega
          have hlB : tabB ims ++ zeros (4026 - n) = lB ims := by
            unfold lB
            rw [HNN.out, HN.out]
          rw [hlB] at ho hlm
          have hbz := HB0.out.trans (hb.mono HB0.out.size)
          have hrow := (hb.block _ (heap_in hrow0)).trans hrow0
          have hg2 := (cells3 hrow).2.2
          have hiB : inB ims = be k 2 ++ be (crcMore 0 (lB ims)) 4 ++ lB ims := by rw [HN.out]; rfl
          have hcr := crcMore_lt 0 (lB ims)
          generalize hlg : lB ims = L at *
          have HIB := hid hiB
          clear hlB hlg hiB
          have e2 : IntKind.u64.wrap (k : Int) = (k : Int) := IntWalk.u64_in _ (by omega)
          have A16 := refAdd_any wr none 0 0 [] rfl k 2 (k : Int) rfl (by simp) (RdB.nil _ _) (by omega) (by omega)
          have hb2s := hb.size
          have HO2 := hid ho; have HRO := hid hrow; have HBZ2 := hid hbz; have HB2 := hid hb
          clear ho hrow hbz hb
          go_wp2_with fail
          refine A16.mono ?_
          rintro e w5 ⟨A2, c2, rfl, ho5, b5⟩
          rw [List.nil_append] at ho5
          have hl5 := HO2.out.below b5
          have MO := refMore_any w5 0 0 rfl (by decide) A c' 4026 L hlm.symm (by omega) hl5.rd
          have hbl := be_length k 2
          generalize crcMore 0 L = cr at *
          have e3 : IntKind.u64.wrap (cr : Int) = (cr : Int) := IntWalk.u64_in _ (by omega)
          have A32 := refAdd_any w5 A2 c2 2 (be k 2) hbl.symm cr 4 (cr : Int) rfl (by omega) ho5.rd (by omega) (by omega)
          have HO5 := hid hl5
          have hb5s := b5.size
          have HB5 := hid b5
          clear A16 ho5 hl5 hg2 b5
          go_wp2_with fail
          refine MO.mono ?_
          rintro e w' ⟨rfl, rfl⟩
          clear MO
          go_wp2_with fail
          refine A32.mono ?_
          rintro e w6 ⟨A3, c3, rfl, ho6, b6⟩
          clear A32
          have hl6 := HO5.out.below b6
          have hlen6 : (be k 2 ++ be cr 4).length = 2 + 4 := by rw [List.length_append, be_length, be_length]
          have hb6s := b6.size
          have hrl := hl6.rd
          go_wp2_with (at_builtin; refine app_bytes rfl (.tmp 59) (.tmp 60) rfl w5.heap.size A3 c3 (2 + 4) (be k 2 ++ be cr 4) hlen6.symm rfl ho6 A 4026 c' L rfl hlm.symm hrl 4032 (by rw [hlen6, hlm]) (by rw [hlen6, hlm]; decide) w5 b6 hb6s ?_; intro A4 c4 w7 ho7 hb7 _ _)
          have hin : (be k 2 ++ be cr 4 ++ L).length = 4032 := by rw [List.length_append, hlen6, hlm]
          rw [← HIB.out] at ho7 hin
          have hb07 : Below w0.heap.size w0 w7 := HB2.out.trans (((Below.mono HB5.out hb2s).trans (hb7.mono (Nat.le_trans hb2s hb5s))))
          have hz7 := hb07.size
          have HO7 := hid ho7; have HB7 := hid hb07; have HIN := hid hin
          clear ho7 hb7 hb07 hrl hl6 ho6 b6 hlm hlen6
          clear HIB
          obtain ⟨inn, hinn⟩ : ∃ inn, inn = inB ims := ⟨_, rfl⟩
          rw [← hinn] at HO7 HIN
          have HINN := hid hinn
          clear hinn
          go_wp2_with fail
          go_loopw [7, 8] (fun s i wr => ∃ (q : Nat) (A : Option Addr) (c' m : Nat), q ≤ 8 ∧ i = .int .i64 q ∧ m = 512 * q ∧ s = .slice A m c' ∧ OwnB w7.heap.size wr A c' (spreadTo (stampB E Q) inn q) ∧ Below w7.heap.size w7 wr) (fun _ i _ => 8 - (intOf i).toNat)
          case atStart => exact ⟨0, none, 0, 0, Nat.zero_le _, rfl, rfl, rfl, OwnB.nil _ _, Below.refl _ _⟩
          case round => as_aux_lemma =>
            obtain ⟨q, A, c', m, hq, rfl, hm, rfl, ho, hb⟩ := hrel
            have hls : (spreadTo (stampB E Q) inn q).length = m := by rw [spreadTo_length _ _ (stampB_length _ _) HIN.out q hq]; omega
            have hb0w := HB7.out.trans (hb.mono hz7)
            have hrow := (hb0w.block _ (heap_in hrow0)).trans hrow0
            by_cases hlq : q < 8
            · have hsu := spreadTo_succ (stampB E Q) inn q
              have ST := refStamp_any wr E Q (E : Int) (Q : Int) rfl rfl (by omega) (by omega) (by omega) (.slice a k c)
              obtain ⟨g0, g1, g2⟩ := cells3 hrow
              have hstl := stampB_length E Q
              generalize spreadTo (stampB E Q) inn q = ld at *
              generalize stampB E Q = st at *
              have HSU := hid hsu; have HM := hid hm; have HO2 := hid ho; have HB2 := hid hb
              have hbs := hb.size
              have hmb : m ≤ 4096 := by omega
              clear hsu hm ho hb hrow hb0w
              go_wp2_with fail
              refine ST.mono ?_
              rintro e w8 ⟨g, cg, rfl, ho8, b8⟩
              clear ST g0 g1 g2
              have hA := HO2.out.below b8
              have hb8 := HB2.out.trans (b8.mono hbs)
              have hb8s := hb8.size
              have hr8 := ho8.rd
              have hl9 : (ld ++ st).length = m + 8 := by rw [List.length_append, hls, hstl]
              obtain ⟨gi, eI, -⟩ := own_adr4 HO7.out (by rw [HIN.out]; decide)
              subst eI
              have hlp : ((inn.drop (q * 504)).take 504).length = 504 := part_length _ _ _ (by rw [HIN.out]; omega)
              have hcap := HO7.out.cap
              rw [HIN.out] at hcap
              obtain ⟨hcap1, hcap2⟩ := hcap
              obtain ⟨pt, hpt⟩ : ∃ pt, (inn.drop (q * 504)).take 504 = pt := ⟨_, rfl⟩
              rw [hpt] at hlp HSU
              have HPT := hid hpt
              clear hpt ho8 b8
              go_wp2_with (first
                | (with_reducible refine app_bytes rfl (.tmp 66) (.tmp 68) rfl w7.heap.size A c' m ld hls.symm rfl hA (some ⟨g, 0, none⟩) 8 cg st rfl hstl.symm hr8 (m + 8) (by rw [hls, hstl]) (by rw [hls, hstl]; omega) w7 hb8 hb8s ?_; intro A1 c1 w9 ho9 hb9 _ _; have hri := (HO7.out.below hb9).rd.part (q * 504) 504; rw [HPT.out, Nat.zero_add] at hri; have hb9s := hb9.size; clear hA hb8 hr8)
                | (refine app_bytes rfl (.tmp 70) (.tmp 77) rfl w7.heap.size A1 c1 (m + 8) (ld ++ st) hl9.symm rfl ho9 _ _ _ pt rfl (by rw [hlp]; omega) hri (m + 512) (by rw [hl9, hlp]) (by rw [hl9, hlp]; omega) w7 hb9 hb9s ?_; intro A2 c2 w10 ho10 hb10 _ _; have HO10 := hid ho10; have HB10 := hid hb10; clear ho10 hb10))
              go_roundw
              case rel => exact ⟨q + 1, A2, c2, m + 512, by omega, by go_num, by have := HM.out; omega, rfl, by rw [HSU.out]; exact HO10.out, HB10.out⟩
              case measure => simp [intOf]; omega
            · obtain rfl : q = 8 := by omega
              have hfin : Below w.heap.size w wr := HB0.out.trans (hb0w.mono HB0.out.size)
              have hob : OwnB w.heap.size wr A c' (headB E Q ims) := by
                unfold headB spreadB
                rw [← HINN.out]
                exact ho.mono (by omega)
              obtain rfl : m = 4096 := by omega
              have HFIN := hid hfin; have HOB := hid hob
              clear ho hb hls hb0w hrow hfin hob
              go_wp2
              go_ret
              exact ⟨A, c', rfl, HOB.out, HFIN.out⟩
end Go.Proofs.Ytknhfaplddgnlaa
