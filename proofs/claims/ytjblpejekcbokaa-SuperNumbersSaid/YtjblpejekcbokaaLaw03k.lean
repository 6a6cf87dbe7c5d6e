/- Where the sums stand. -/
import Derived.Test.YtjblpejekcbokaaLaw03i
import Derived.Deep.QuietTactic
import Derived.BigQuiet
namespace Go.Proofs.Ytjblpejekcbokaa
open Go.RowKit
set_option maxHeartbeats 16000000
set_option linter.unusedVariables false
set_option linter.unusedSimpArgs false

def n3 : Ind := ⟨2, 100, 131072, 511, []⟩
theorem ok_n3 : okInd n3 = true := by decide
theorem len_n3 : (indB n3).length = 64 := indB_length (okInd_len ok_n3)
theorem PutInode_n3 (w : World) : Calls Try.prog 14 #[.agg #[.int .u8 2, .int .i64 100, .int .i64 131072, .slice none 0 0, .int .i64 511]] w fun e w' => ∃ A c', e = .returned (.tuple #[.slice A 64 c', .int .i64 0]) ∧ OwnB w.heap.size w' A c' (indB n3) ∧ Below w.heap.size w w' := by
  have := PutInode_any w n3 none 0 (by refine ⟨by decide, by decide, by decide, by decide, by decide, fun k hk => absurd hk (Nat.not_lt_zero _)⟩) (RdX.nil _ _)
  rw [show putInd n3 = indB n3 from if_pos ok_n3, show errInd n3 = 0 from if_pos ok_n3, len_n3] at this
  exact this
theorem n3_0 : (bat (indB n3) 0).toNat = 2 := by decide +kernel
theorem n3_26 : (bat (indB n3) 26).toNat = 1 := by decide +kernel
theorem n3_27 : (bat (indB n3) 27).toNat = 255 := by decide +kernel
theorem crc4 (l : List UInt8) : crcMore 0 l < 256 ^ 4 := by
  have := crcMore_lt 0 l
  have h : (256 : Nat) ^ 4 = 4294967296 := by decide
  omega
theorem sum_sup : numV (supB s0) 40 4 = crcMore 0 ((supB s0).take 40) := by
  have e : supB s0 = supTo s0 4 ++ (be (crcMore 0 (supTo s0 4)) 4 ++ zeros 4052) := by simp [supB]
  have hl := supTo_length s0 4
  have h1 : numV (supB s0) 40 4 = crcMore 0 (supTo s0 4) := numV_lt_at (supTo s0 4) (zeros 4052) _ _ 4 _ (by rw [hl]; rfl) e (crc4 _)
  rw [h1, e, List.take_left' (by rw [hl])]
theorem sum_node (l : List Ext) (h : l.length ≤ 250) : numV (nodeB l) 4 4 = crcMore 0 (((nodeB l).drop 8).take 4088) := by
  have hI := inB_length l h
  have e : nodeB l = (be l.length 2 ++ be 0 2) ++ (be (crcMore 0 (inB l)) 4 ++ inB l) := by simp [nodeB]
  have h1 : numV (nodeB l) 4 4 = crcMore 0 (inB l) := numV_lt_at (be l.length 2 ++ be 0 2) (inB l) _ _ 4 _ (by simp [be_length]) e (crc4 _)
  rw [h1, nodeB, List.drop_left' (by simp [be_length]), List.take_of_length_le (by omega)]
theorem sum_n3 : numV (indB n3) 60 4 = crcMore 0 ((indB n3).take 60) := by
  have hM : (indM n3).length = 60 := indM_length (by decide)
  have e : indB n3 = indM n3 ++ (be (crcMore 0 (indM n3)) 4 ++ []) := by rw [List.append_nil]; exact if_neg (by decide)
  have h1 : numV (indB n3) 60 4 = crcMore 0 (indM n3) := numV_lt_at (indM n3) [] _ _ 4 _ (by rw [hM]; rfl) e (crc4 _)
  rw [h1, e, List.take_left' hM]
theorem refMore_sym (w : World) (s : Nat) (x : Int) (hx : x = (s : Int)) (hs : s < 4294967296) (a : Option Addr) (c N : Nat) (l : List UInt8) (hN : N = l.length) (hl : l.length ≤ 200000000000000) (hr : RdB w a l) :
    Calls Try.prog 42 #[.int .u32 x, .slice a N c] w fun e w' => e = .returned (.int .u32 (crcMore s l : Nat)) ∧ w' = w :=
  (refMore_any w s x hx hs a c N l hN hl hr).mono fun _ _ h => ⟨h.1, h.2.symm⟩
set_option maxRecDepth 100000 in
theorem sums_any (w : World) (g c g2 c2 : Nat) (hb : RdB w (some ⟨g, 0, none⟩) (supB s0)) (hc : 4096 ≤ c) (hn : RdB w (some ⟨g2, 0, none⟩) (nodeB (manyX 250))) (hc2 : 4096 ≤ c2) :
    Calls Try.prog 29 #[.slice (some ⟨g, 0, none⟩) 4096 c, .slice (some ⟨g2, 0, none⟩) 4096 c2] w fun e w' => e = .returned (.bool true) ∧ Below w.heap.size w w' := by
  have hnl := nodeB_length (manyX 250) (by rw [manyX_length]; decide)
  have q1 := sum_sup
  have q2 := sum_node (manyX 250) (by rw [manyX_length]; decide)
  have q3 := sum_n3
  have A1 := fun W (h : RdB W (some ⟨g, 0, none⟩) (supB s0)) => at_any W (some ⟨g, 0, none⟩) c 4096 (supB s0) (supB_length s0).symm (by rw [supB_length]; decide) h 40 40 rfl (by rw [supB_length]; decide)
  have M1 := fun W c (h : RdB W (some ⟨g, 0, none⟩) ((supB s0).take 40)) => refMore_sym W 0 0 rfl (by decide) (some ⟨g, 0, none⟩) c 40 ((supB s0).take 40) (by rw [List.length_take, supB_length]; rfl) (by rw [List.length_take, supB_length]; decide) h
  have A2 := fun W (h : RdB W (some ⟨g2, 0, none⟩) (nodeB (manyX 250))) => at_any W (some ⟨g2, 0, none⟩) c2 4096 (nodeB (manyX 250)) hnl.symm (by rw [hnl]; decide) h 4 4 rfl (by rw [hnl]; decide)
  have M2 := fun W c (h : RdB W (some ⟨g2, 0 + 8, none⟩) (((nodeB (manyX 250)).drop 8).take 4088)) => refMore_sym W 0 0 rfl (by decide) (some ⟨g2, 0 + 8, none⟩) c 4088 (((nodeB (manyX 250)).drop 8).take 4088) (by rw [List.length_take, List.length_drop, hnl]; rfl) (by rw [List.length_take, List.length_drop, hnl]; decide) h
  have P1 := hid (hb.take 40)
  have P2 := hid (hn.part 8 4088)
  have q1' : numV (supB s0) ((40 : Nat) : Int) 4 = crcMore 0 ((supB s0).take 40) := q1
  rw [q1'] at A1
  rw [show (0 : Nat) + 8 = 8 from rfl] at M2 P2
  have q2' : numV (nodeB (manyX 250)) ((4 : Nat) : Int) 4 = crcMore 0 (((nodeB (manyX 250)).drop 8).take 4088) := q2
  rw [q2'] at A2
  generalize crcMore 0 ((supB s0).take 40) = K1 at A1 M1
  generalize crcMore 0 (((nodeB (manyX 250)).drop 8).take 4088) = K2 at A2 M2
  have HB := hid hb; have HN := hid hn
  clear hb hn q1 q1' q2 q2'
  go_enter Try.func29, Try.ntmps29
  go_wp2_with fail
  refine (PutInode_n3 _).mono ?_
  rintro e w1 ⟨A5, c5, rfl, g5, b1⟩
  obtain ⟨g3, rfl, hg0, hcs, _⟩ := g5.at_ (by intro e; have := len_n3; rw [e] at this; cases this)
  rw [len_n3] at hcs
  have v0 := hcs 0 (by decide); have v26 := hcs 26 (by decide); have v27 := hcs 27 (by decide)
  rw [n3_0] at v0; rw [n3_26] at v26; rw [n3_27] at v27
  have hc5 : 64 ≤ c5 := by have := g5.cap.1; rw [len_n3] at this; exact this
  have A3 := fun W (h : RdB W (some ⟨g3, 0, none⟩) (indB n3)) => at_any W (some ⟨g3, 0, none⟩) c5 64 (indB n3) len_n3.symm (by rw [len_n3]; decide) h 60 60 rfl (by rw [len_n3]; decide)
  have M3 := fun W c (h : RdB W (some ⟨g3, 0, none⟩) ((indB n3).take 60)) => refMore_sym W 0 0 rfl (by decide) (some ⟨g3, 0, none⟩) c 60 ((indB n3).take 60) (by rw [List.length_take, len_n3]; rfl) (by rw [List.length_take, len_n3]; decide) h
  have q3' : numV (indB n3) ((60 : Nat) : Int) 4 = crcMore 0 ((indB n3).take 60) := q3
  rw [q3'] at A3
  generalize crcMore 0 ((indB n3).take 60) = K3 at A3 M3
  have hb1 := hid (RdB.below HB.out b1); have hn1 := hid (RdB.below HN.out b1); have hp1 := hid (RdB.below P1.out b1); have hp2 := hid (RdB.below P2.out b1)
  have hi1 := hid g5.rd; have hi2 := hid (g5.rd.take 60)
  clear hcs HB HN P1 P2 q3 q3' g5
  have bw := b1
  clear b1
  go_wp2_with fail
  have z1 : (40 : Int) ≤ (c : Int) := by omega
  have z2 : (60 : Int) ≤ (c5 : Int) := by omega
  have z3 : (8 : Int) ≤ (c2 : Int) := by omega
  have z4 : ¬ c2 = 8 := by omega
  have z5 : (4096 : Int) ≤ (c2 : Int) := by omega
  go_quiet ((first
    | (go_at_call_of 54 (Value.int IntKind.i64 40); exact Calls.quiet_of (A1 _ hb1.out))
    | (go_at_call_of 54 (Value.int IntKind.i64 60); exact Calls.quiet_of (A3 _ hi1.out))
    | (go_at_call_of 54 (Value.int IntKind.i64 4); exact Calls.quiet_of (A2 _ hn1.out))
    | (go_at_call_of 42 (Value.slice (some (⟨g, 0, none⟩ : Addr)) 40 c); exact Calls.quiet_of_same (M1 _ _ hp1.out))
    | (go_at_call_of 42 (Value.slice (some (⟨g3, 0, none⟩ : Addr)) 60 c5); exact Calls.quiet_of_same (M3 _ _ hi2.out))
    | (go_at_call_of 42 (IntKind.u32); exact Calls.quiet_of_same (M2 _ _ hp2.out))))
  go_wp2
  go_ret
  exact ⟨rfl, below_drewN2 bw _⟩
end Go.Proofs.Ytjblpejekcbokaa
