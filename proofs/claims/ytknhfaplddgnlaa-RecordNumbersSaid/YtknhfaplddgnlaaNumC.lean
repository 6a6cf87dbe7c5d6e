/- Plain facts for RecordNumbers. -/
import Derived.Test.YtknhfaplddgnlaaNumB
namespace Go.Proofs.Ytknhfaplddgnlaa
open Go.RowKit
set_option maxHeartbeats 1500000
set_option maxRecDepth 100000
set_option linter.unusedVariables false
set_option linter.unusedSimpArgs false

def oneH : List UInt8 := headB 1 1 oneI
def oneM : List UInt8 := markB (stampB 1 1) oneD
theorem putB_one : putB 1 1 oneI = [oneH, oneM] := rfl
theorem stamp11 : stampB 1 1 = [0, 0, 1, 0, 0, 0, 0, 1] := by decide
theorem oneM_length : oneM.length = 4096 := by unfold oneM; rw [markB_length]; simp [oneD]
theorem oneH_length : oneH.length = 4096 := headB_length 1 1 oneI (by decide)
theorem oneM_at (k : Nat) (hk : k < 4096) : bat oneM k = if k % 512 < 8 then bat [0, 0, 1, 0, 0, 0, 0, 1] (k % 512) else 97 := by
  unfold oneM
  rw [bat_markB (by simp [oneD]) k hk, stamp11]
  split
  · rfl
  · unfold oneD bat
    rw [List.getD_eq_getElem?_getD, List.getElem?_replicate, if_pos hk]
    rfl
theorem oneH_at (k : Nat) (hk : k < 4096) (h8 : k % 512 < 8) : bat oneH k = bat [0, 0, 1, 0, 0, 0, 0, 1] (k % 512) := by
  rw [← stamp11]
  exact (stamped_spread (stampB_length _ _) (inB_length oneI (by decide))).2 k hk h8
theorem oneM_part (s : Nat) (hs : s < 8) : (oneM.drop (s * 512)).take 9 = [0, 0, 1, 0, 0, 0, 0, 1, 97] := by
  have hp := part_length oneM (s * 512) 9 (by rw [oneM_length]; omega)
  refine bat_ext (by rw [hp]; rfl) fun k hk => ?_
  rw [hp] at hk
  rw [bat_part _ _ _ _ hk, oneM_at _ (by omega), show (s * 512 + k) % 512 = k by omega]
  rcases k with _ | _ | _ | _ | _ | _ | _ | _ | _ | k
  all_goals first | rfl | omega
theorem oneH_part (s : Nat) (hs : s < 8) : (oneH.drop (s * 512)).take 8 = [0, 0, 1, 0, 0, 0, 0, 1] := by
  have hp := part_length oneH (s * 512) 8 (by rw [oneH_length]; omega)
  refine bat_ext (by rw [hp]; rfl) fun k hk => ?_
  rw [hp] at hk
  rw [bat_part _ _ _ _ hk, oneH_at _ (by omega) (by omega), show (s * 512 + k) % 512 = k by omega]
theorem oneM_take : oneM.take 8 = [0, 0, 1, 0, 0, 0, 0, 1] := by
  have hp : (oneM.take 8).length = 8 := by rw [List.length_take, oneM_length]; decide
  refine bat_ext (by rw [hp]; rfl) fun k hk => ?_
  rw [hp] at hk
  rw [bat_take _ _ _ hk, oneM_at _ (by omega), if_pos (by omega), show k % 512 = k by omega]
theorem bat_setN (l : List UInt8) (i k : Nat) (v : UInt8) (hi : i < l.length) : bat (l.set i v) k = if k = i then v else bat l k := by
  unfold bat
  rw [List.getD_eq_getElem?_getD, List.getD_eq_getElem?_getD, List.getElem?_set]
  by_cases e : k = i
  · subst e
    simp [hi]
  · rw [if_neg (fun h => e h.symm), if_neg e]
theorem getOK_stamps {h : List UInt8} {t : List (List UInt8)} (hok : getOK (h :: t) = true) : ∃ m : List UInt8, stampedB m h ∧ ∀ b ∈ t, stampedB m b := by
  simp only [getOK, Bool.and_eq_true, decide_eq_true_eq, List.all_eq_true] at hok
  obtain ⟨⟨g1, _⟩, g3⟩ := hok
  unfold isHead at g1
  simp only [Bool.and_eq_true] at g1
  exact ⟨_, (of_decide_eq_true g1.1.1.1).2.2.2.2, fun b hb => (of_decide_eq_true (g3 b hb)).2.2.2.2⟩
/-- Where two marks are unlike, it is no group. -/
theorem getOK_unlike {h : List UInt8} {t : List (List UInt8)} {b1 b2 : List UInt8} (h1 : b1 ∈ h :: t) (h2 : b2 ∈ h :: t) {k1 k2 : Nat} (e1 : k1 < 4096) (e2 : k2 < 4096) (e3 : k1 % 512 < 8) (e4 : k1 % 512 = k2 % 512) (hne : bat b1 k1 ≠ bat b2 k2) : getOK (h :: t) = false := by
  rw [Bool.eq_false_iff]
  intro hc
  obtain ⟨m, m1, m2⟩ := getOK_stamps hc
  have key : ∀ b ∈ h :: t, stampedB m b := fun b hb => by
    rcases List.mem_cons.1 hb with rfl | hb
    · exact m1
    · exact m2 b hb
  exact hne (by rw [(key _ h1).2 k1 e1 e3, (key _ h2).2 k2 e2 (by omega), e4])
theorem bad_get (s : Nat) (hs : s < 8) : getOK ((putB 1 1 oneI).set (s % 2) ((((putB 1 1 oneI).getD (s % 2) []).set (s * 512 + 7) 2))) = false := by
  rw [putB_one]
  have hv : bat [0, 0, 1, 0, 0, 0, 0, 1] 7 = 1 := rfl
  rcases Nat.mod_two_eq_zero_or_one s with e | e
  · rw [e]
    refine getOK_unlike (h := oneH.set (s * 512 + 7) 2) (t := [oneM]) (b1 := oneH.set (s * 512 + 7) 2) (b2 := oneM) (k1 := s * 512 + 7) (k2 := 7) (by simp) (by simp) (by omega) (by omega) (by omega) (by omega) ?_
    rw [bat_setN _ _ _ _ (by rw [oneH_length]; omega), if_pos rfl, oneM_at 7 (by decide), if_pos (by decide), hv]
    decide
  · rw [e]
    refine getOK_unlike (h := oneH) (t := [oneM.set (s * 512 + 7) 2]) (b1 := oneM.set (s * 512 + 7) 2) (b2 := oneH) (k1 := s * 512 + 7) (k2 := 7) (by simp) (by simp) (by omega) (by omega) (by omega) (by omega) ?_
    rw [bat_setN _ _ _ _ (by rw [oneM_length]; omega), if_pos rfl, oneH_at 7 (by decide) (by decide), hv]
    decide
theorem one_nOf : nOf (gathB oneH) = 1 := by
  obtain ⟨_, _, _, k4, k5⟩ := head_put (E := 1) (Q := 1) one_right
  unfold oneH
  rw [k4, k5]
  rfl
theorem get_short : getOK [oneH] = false := by
  simp only [getOK, one_nOf]
  simp
theorem nOf_M : 32 < nOf (gathB oneM) := by
  have hg : (gathB oneM).length = 4032 := gathB_length oneM_length
  have e : gathB oneM = [] ++ (be 24929 2 ++ (gathB oneM).drop 2) := by
    have : be 24929 2 = (gathB oneM).take 2 := by
      refine bat_ext (by rw [List.length_take, hg]; rfl) fun k hk => ?_
      rw [be_length] at hk
      rw [bat_take _ _ _ hk, bat_gathB oneM_length k (by omega), oneM_at _ (by omega), if_neg (by omega)]
      rcases k with _ | _ | k
      all_goals first | rfl | omega
    rw [this, List.take_append_drop, List.nil_append]
  have := (numV_at [] _ (gathB oneM) 24929 2 0 rfl e).2
  unfold nOf
  rw [this]
  decide
theorem get_turned : getOK [oneM, oneH] = false := by
  simp only [getOK, isHead_short (.inr nOf_M)]
  simp
theorem no_none : rightG 1 1 [] = false := decide_eq_false (fun h => absurd h.2.2.2.2.1 (by decide))
theorem no_many : rightG 8388608 549755813888 (manyI 33) = false := decide_eq_false (fun h => absurd h.2.2.2.2.2.1 (by rw [manyI_length]; decide))
theorem no_two : rightG 1 1 [(1, List.replicate 4096 0), (1, List.replicate 4096 0)] = false := decide_eq_false (fun h => absurd h.2.2.2.2.2.2.2 (by simp))
theorem no_high : rightG 1 1 [(512, List.replicate 4096 0)] = false := decide_eq_false (fun h => absurd (h.2.2.2.2.2.2.1 _ (List.mem_singleton.2 rfl)).2.1 (by decide))
theorem no_short : rightG 1 1 [(1, List.replicate 4095 0)] = false := decide_eq_false (fun h => absurd (h.2.2.2.2.2.2.1 _ (List.mem_singleton.2 rfl)).2.2 (by rw [List.length_replicate]; decide))
theorem many_right : rightG ((8388608 : Nat) : Int) ((549755813888 : Nat) : Int) (manyI 32) = true := by
  refine decide_eq_true ⟨by decide, by decide, by decide, by decide, by rw [manyI_length]; decide, by rw [manyI_length]; decide, fun x hx => ?_, ?_⟩
  · obtain ⟨i, hi, rfl⟩ := List.mem_map.1 hx
    have := List.mem_range.1 hi
    refine ⟨?_, ?_, madeB_length _ _⟩
    · show 0 ≤ 511 - (i : Int)
      omega
    · show 511 - (i : Int) ≤ 511
      omega
  · have e : (manyI 32).map (·.1) = nsM 32 := by simp [manyI, nsM]
    rw [e]
    decide
theorem st12 : stmpD oneM 1 2 = false := decide_eq_false (fun h => absurd (h.2.2.2.2.2 7 (by decide) (by decide)) (by rw [oneM_at 7 (by decide)]; decide))
theorem st11 : stmpD oneM 1 1 = true := decide_eq_true ⟨by decide, by decide, by decide, by decide, stamped_mark (by simp [oneD])⟩
end Go.Proofs.Ytknhfaplddgnlaa
