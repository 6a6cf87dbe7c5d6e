/- law06's sum; plain facts for RecordNumbers. -/
import Derived.Test.YtknhfaplddgnlaaNumA
namespace Go.Proofs.Ytknhfaplddgnlaa
open Go.RowKit
set_option maxHeartbeats 1500000
set_option maxRecDepth 100000
set_option linter.unusedVariables false
set_option linter.unusedSimpArgs false

theorem be4 (n : Nat) : B8s (be n 4) = [.int .u8 ((n : Int) / 16777216 % 256), .int .u8 ((n : Int) / 65536 % 256), .int .u8 ((n : Int) / 256 % 256), .int .u8 ((n : Int) % 256)] := by
  have h3 := shr_byte n 3
  have h2 := shr_byte n 2
  have h1 := shr_byte n 1
  have h0 := shr_byte n 0
  have e : be n 4 = [byteOf (n / 256 ^ 3), byteOf (n / 256 ^ 2), byteOf (n / 256 ^ 1), byteOf (n / 256 ^ 0)] := rfl
  rw [e]
  simp only [B8s, List.map_cons, List.map_nil, B8, ← h3, ← h2, ← h1, ← h0]
  simp
theorem sum_any (w : World) (b off c E Q : Nat) (ims : List Img) (h6 : ims.length ≤ 32) (hc : 4096 ≤ c ∧ c ≤ 9223372036854775807) (hr : RdB w (some ⟨b, off, none⟩) (headB E Q ims)) :
    Calls Try.prog 15 #[.slice (some ⟨b, off, none⟩) 4096 c] w fun e w' => e = .returned (.bool true) ∧ Below w.heap.size w w' := by
  have hl := headB_length E Q ims h6
  have hga : gathB (headB E Q ims) = inB ims := gath_spread (stampB_length _ _) (inB_length ims h6)
  have hG := gathTo_length (headB E Q ims) hl
  obtain ⟨l, hle⟩ : ∃ l, l = headB E Q ims := ⟨_, rfl⟩
  rw [← hle] at hl hga hG hr
  have HGA := hid hga; have HR := hid hr; have HG := hid hG; have HL := hid hl
  clear hga hr hG hle hl
  go_enter Try.func15, Try.ntmps15
  go_wp2_with fail
  go_loopw [3, 4] (fun vs i wr => ∃ k oa oc, k ≤ 8 ∧ i = .int .i64 ((k : Nat) : Int) ∧ vs = .slice oa (504 * k) oc ∧ OwnB w.heap.size wr oa oc (gathTo l k) ∧ Below w.heap.size w wr) (fun _ i _ => 8 - (intOf i).toNat)
  case atStart => exact ⟨0, none, 0, by omega, rfl, rfl, OwnB.nil _ _, Below.refl _ _⟩
  case round => as_aux_lemma =>
    obtain ⟨k, oa, oc, hk, rfl, rfl, ho, hb⟩ := hrel
    by_cases hlt : k < 8
    · have hpl := part_length l (k * 512 + 8) 504 (by have := HL.out; omega)
      have r1 := (HR.out.below hb).part (k * 512 + 8) 504
      have hg1 := HG.out k (by omega)
      have hb1 : (k : Int) * 512 + 8 ≤ ((k : Int) + 1) * 512 := by omega
      have hb2 : ((k : Int) + 1) * 512 ≤ (c : Int) := by omega
      have t1 : ((k : Int) * 512 + 8).toNat = k * 512 + 8 := by omega
      have t2 : (((k : Int) + 1) * 512).toNat = (k + 1) * 512 := by omega
      have t3 : (((k : Int) + 1) * 512 - ((k : Int) * 512 + 8)).toNat = 504 := by omega
      have t4 : (k + 1) * 512 - (k * 512 + 8) = 504 := by omega
      have HG1 := hid hg1; have HPL := hid hpl; have R1 := hid r1; have HO := hid ho; have HB := hid hb
      clear hg1 hpl r1 ho hb
      go_wp2_with (with_reducible refine app_bytes rfl (.tmp 10) (.tmp 18) rfl w.heap.size oa oc (504 * k) (gathTo l k) HG1.out.symm rfl HO.out (some ⟨b, off + (k * 512 + 8), none⟩) 504 _ ((l.drop (k * 512 + 8)).take 504) rfl HPL.out.symm R1.out (504 * k + 504) (by rw [HG1.out, HPL.out]) (by rw [HG1.out, HPL.out]; omega) w HB.out HB.out.size ?_; intro A1 c1 w1 h1 h2 h3 h4)
      have e1 := gathTo_succ l k
      have E1 := hid e1
      clear h3 h4 e1
      go_roundw
      case rel => exact ⟨k + 1, A1, c1, by omega, by go_num, by rw [Nat.mul_add], by rw [E1.out]; exact h1, h2⟩
      case measure => simp [intOf]; omega
    · obtain rfl : k = 8 := by omega
      have e1 : gathTo l 8 = inB ims := HGA.out
      rw [e1] at ho
      have hi := inB_length ims h6
      have hcr := crcMore_lt 0 (lB ims)
      obtain ⟨g, rfl, hgb, hgw⟩ := own_adr ho (by intro e; rw [e] at hi; simp at hi)
      have hcap := ho.cap
      rw [hi] at hcap
      obtain ⟨hcap1, hcap2⟩ := hcap
      obtain ⟨n, hn⟩ : ∃ n, n = crcMore 0 (lB ims) := ⟨_, rfl⟩
      have hin : inB ims = be ims.length 2 ++ (be n 4 ++ lB ims) := by rw [hn, ← List.append_assoc]; rfl
      have p6 : ((inB ims).drop 6).take 4026 = lB ims := by
        rw [hin, ← List.append_assoc, show 6 = (be ims.length 2 ++ be n 4).length by simp [be_length], List.drop_left, List.take_of_length_le (by rw [lB_length ims h6]; exact Nat.le_refl _)]
      have p2 : ((inB ims).drop 2).take 4 = be n 4 := by
        rw [hin]
        have h2 : (be ims.length 2).length = 2 := be_length _ _
        have h4 : (be n 4).length = 4 := be_length _ _
        rw [List.drop_append_of_le_length (by omega), List.drop_of_length_le (by omega), List.nil_append, List.take_append_of_le_length (by omega), List.take_of_length_le (by omega)]
      have r6 := ho.rd.part 6 4026
      have r2 := ho.rd.part 2 4
      rw [p6] at r6
      rw [p2] at r2
      have MO := refMore_any wr 0 0 rfl (by decide) (some ⟨g, 0 + 6, none⟩) (oc - 6) 4026 (lB ims) (lB_length ims h6).symm (by rw [lB_length ims h6]; decide) r6
      rw [← hn] at MO hcr
      rw [Nat.zero_add] at MO r2
      have B4 : Hid (B8s (be n 4) = [.int .u8 ((n : Int) / 16777216), .int .u8 ((n : Int) / 65536 % 256), .int .u8 ((n : Int) / 256 % 256), .int .u8 ((n : Int) % 256)]) := hid (by
        rw [be4 n, show (n : Int) / 16777216 % 256 = (n : Int) / 16777216 by omega])
      have HB := hid hb; have R2 := hid r2
      clear ho hb r6 r2 hin p6 p2 hn e1 hi
      go_wp2_with fail
      refine MO.mono ?_
      rintro e w1 ⟨rfl, rfl⟩
      clear MO
      have hcr2 : (n : Int) < 4294967296 := by omega
      have SB : Calls Try.prog 9 #[.slice (some ⟨g, 2, none⟩) 4 (oc - 2), .slice (some ⟨wr.heap.size, 0, none⟩) 4 4] (wr.alloc (.cells #[.int .u8 ((n : Int) / 16777216), .int .u8 ((n : Int) / 65536 % 256), .int .u8 ((n : Int) / 256 % 256), .int .u8 ((n : Int) % 256)] 5)) fun e w' => e = .returned (.bool true) ∧ (wr.alloc (.cells #[.int .u8 ((n : Int) / 16777216), .int .u8 ((n : Int) / 65536 % 256), .int .u8 ((n : Int) / 256 % 256), .int .u8 ((n : Int) % 256)] 5)) = w' := by
        have rn := RdV.new wr #[.int .u8 ((n : Int) / 16777216), .int .u8 ((n : Int) / 65536 % 256), .int .u8 ((n : Int) / 256 % 256), .int .u8 ((n : Int) % 256)] 5
        have rb : RdB (wr.alloc (.cells #[.int .u8 ((n : Int) / 16777216), .int .u8 ((n : Int) / 65536 % 256), .int .u8 ((n : Int) / 256 % 256), .int .u8 ((n : Int) % 256)] 5)) (some ⟨wr.heap.size, 0, none⟩) (be n 4) := by
          unfold RdB
          rw [B4.out]
          exact rn
        have := SameBytes_any _ (some ⟨g, 2, none⟩) (some ⟨wr.heap.size, 0, none⟩) (oc - 2) 4 4 4 (be n 4) (be n 4) (be_length _ _).symm (be_length _ _).symm (R2.out.below ((Below.refl _ _).alloc (Nat.le_refl _) _)) rb
        rw [show (be n 4 == be n 4) = true by simp] at this
        exact this
      have HA : Below wr.heap.size wr (wr.alloc (.cells #[.int .u8 ((n : Int) / 16777216), .int .u8 ((n : Int) / 65536 % 256), .int .u8 ((n : Int) / 256 % 256), .int .u8 ((n : Int) % 256)] 5)) := (Below.refl _ _).alloc (Nat.le_refl _) _
      have HF := hid (HB.out.trans (HA.mono HB.out.size))
      clear HA
      go_wp2_with fail
      refine SB.mono ?_
      rintro e w2 ⟨rfl, rfl⟩
      clear SB
      go_wp2
      go_ret
      exact ⟨rfl, HF.out⟩
end Go.Proofs.Ytknhfaplddgnlaa
