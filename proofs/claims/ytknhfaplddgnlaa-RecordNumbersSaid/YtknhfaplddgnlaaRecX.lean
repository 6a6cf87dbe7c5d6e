/- What Put makes is read back (plain). -/
import Derived.Test.YtknhfaplddgnlaaRecW
namespace Go.Proofs.Ytknhfaplddgnlaa
open Go.RowKit
set_option maxHeartbeats 1000000
set_option maxRecDepth 100000
set_option linter.unusedVariables false
set_option linter.unusedSimpArgs false

theorem head_ext (E Q : Nat) (l r : List Img) (hl : l.length = r.length) (e : tabB l = tabB r) : headB E Q l = headB E Q r := by
  unfold headB inB lB
  rw [e, hl]
theorem tabB_split (ims : List Img) (i : Nat) (x : Img) (hx : ims[i]? = some x) : tabB ims = tabB (ims.take i) ++ (be x.1.toNat 2 ++ hidB x.2) ++ tabB (ims.drop (i + 1)) := by
  obtain ⟨hi, rfl⟩ := List.getElem?_eq_some_iff.1 hx
  have e : ims = ims.take i ++ (ims[i] :: ims.drop (i + 1)) := by
    rw [← List.drop_eq_getElem_cons hi, List.take_append_drop]
  conv => lhs; rw [e]
  simp only [tabB, List.flatMap_append, List.flatMap_cons, tabE]
  simp only [List.append_assoc]
theorem inB_split (ims : List Img) (i : Nat) (x : Img) (hx : ims[i]? = some x) : ∃ X Y, X.length = 6 + 66 * i ∧ inB ims = X ++ (be x.1.toNat 2 ++ (hidB x.2 ++ Y)) := by
  have hi := (List.getElem?_eq_some_iff.1 hx).1
  refine ⟨be ims.length 2 ++ be (crcMore 0 (lB ims)) 4 ++ tabB (ims.take i), tabB (ims.drop (i + 1)) ++ zeros (4026 - 66 * ims.length), ?_, ?_⟩
  · simp only [List.length_append, be_length, tabB_length, List.length_take]
    omega
  · have e : lB ims = tabB (ims.take i) ++ (be x.1.toNat 2 ++ hidB x.2) ++ tabB (ims.drop (i + 1)) ++ zeros (4026 - 66 * ims.length) := by
      unfold lB
      rw [tabB_split ims i x hx]
    unfold inB
    generalize crcMore 0 (lB ims) = cr
    rw [e]
    simp only [List.append_assoc]
theorem in_n (ims : List Img) (h : ims.length ≤ 32) : nOf (inB ims) = ims.length := by
  have := (numV_at [] (be (crcMore 0 (lB ims)) 4 ++ lB ims) (inB ims) ims.length 2 0 rfl (by simp [inB, List.append_assoc])).2
  unfold nOf
  rw [this]
  exact Nat.mod_eq_of_lt (by omega)
theorem in_num (ims : List Img) (i : Nat) (x : Img) (hx : ims[i]? = some x) (h : okP ims) : ((numV (inB ims) ((6 + 66 * i : Nat) : Int) 2 : Nat) : Int) = x.1 := by
  obtain ⟨X, Y, hX, hI⟩ := inB_split ims i x hx
  have hb := h.1 x (List.mem_of_getElem? hx)
  have := (numV_at X (hidB x.2 ++ Y) (inB ims) x.1.toNat 2 ((6 + 66 * i : Nat) : Int) (by rw [hX]) hI).2
  rw [this, Nat.mod_eq_of_lt (by omega)]
  omega
theorem in_hid (ims : List Img) (i : Nat) (x : Img) (hx : ims[i]? = some x) : hidI (inB ims) i = hidB x.2 := by
  obtain ⟨X, Y, hX, hI⟩ := inB_split ims i x hx
  unfold hidI
  rw [hI]
  have e : X ++ (be x.1.toNat 2 ++ (hidB x.2 ++ Y)) = (X ++ be x.1.toNat 2) ++ (hidB x.2 ++ Y) := by rw [List.append_assoc]
  have hl : (X ++ be x.1.toNat 2).length = 8 + 66 * i := by rw [List.length_append, hX, be_length]; omega
  rw [e, ← hl, List.drop_left, ← hidB_length x.2, List.take_left]
theorem in_ns (ims : List Img) (h : okP ims) : nsOf (inB ims) ims.length = ims.map (·.1) := by
  refine List.ext_getElem? fun i => ?_
  cases hx : ims[i]? with
  | none =>
    have h1 := List.getElem?_eq_none_iff.1 hx
    rw [List.getElem?_map, hx, List.getElem?_eq_none_iff.2 (by rw [nsOf_length]; exact h1)]
    rfl
  | some x =>
    have hi := (List.getElem?_eq_some_iff.1 hx).1
    rw [nsOf_at _ _ _ hi, in_num ims i x hx h, List.getElem?_map, hx]
    rfl
/-- What a group's blocks say is the group. -/
theorem got_put (ims : List Img) (h : okP ims) (m : List UInt8) : gotIms (inB ims) (ims.map fun x => markB m x.2) ims.length = ims := by
  refine List.ext_getElem? fun i => ?_
  cases hx : ims[i]? with
  | none =>
    have h1 := List.getElem?_eq_none_iff.1 hx
    exact List.getElem?_eq_none_iff.2 (by rw [gotIms_length]; exact h1)
  | some x =>
    have hi := (List.getElem?_eq_some_iff.1 hx).1
    rw [gotIms_at _ _ _ i (markB m x.2) hi (by rw [List.getElem?_map, hx]; rfl), in_num ims i x hx h, in_hid ims i x hx, shown_mark (h.1 x (List.mem_of_getElem? hx)).2.2]
theorem rd_put (ims : List Img) (h : okP ims) (i : Nat) (x : Img) (hx : ims[i]? = some x) : (rdIms (inB ims) ims.length)[i]? = some (x.1, shownB (hidB x.2) (zeros 4096)) := by
  have hi := (List.getElem?_eq_some_iff.1 hx).1
  rw [rdIms_at _ _ _ hi, in_num ims i x hx h, in_hid ims i x hx]
theorem take8 {m inn : List UInt8} (hm : m.length = 8) (hi : inn.length = 4032) : (spreadB m inn).take 8 = m := by
  have hl := spreadB_length hm hi
  refine bat_ext (by rw [List.length_take, hl, hm]; decide) fun k hk => ?_
  rw [List.length_take, hl] at hk
  have hk8 : k < 8 := by omega
  rw [bat_take _ _ _ hk8, bat_spreadB hm hi k (by omega), if_pos (by omega), Nat.mod_eq_of_lt (by omega)]
theorem head_num {E Q : Nat} {ims : List Img} (hn : ims.length ≤ 32) (hE : E ≤ 8388608) (hQ : Q ≤ 549755813888) : epOf (headB E Q ims) = E ∧ seqOf (headB E Q ims) = Q := by
  have h8 := take8 (stampB_length E Q) (inB_length ims hn)
  have e : headB E Q ims = [] ++ (be (E * 1099511627776 + Q) 8 ++ (headB E Q ims).drop 8) := by
    have : be (E * 1099511627776 + Q) 8 = (headB E Q ims).take 8 := h8.symm
    rw [this, List.take_append_drop, List.nil_append]
  have := (numV_at [] _ (headB E Q ims) (E * 1099511627776 + Q) 8 0 rfl e).2
  rw [Nat.mod_eq_of_lt (by omega)] at this
  unfold epOf seqOf
  rw [this]
  omega
/-- A right group's first block is a head, and says what the group is. -/
theorem head_put {E Q : Nat} {ims : List Img} (h : rightG (E : Int) (Q : Int) ims = true) :
    isHead (headB E Q ims) = true ∧ epOf (headB E Q ims) = E ∧ seqOf (headB E Q ims) = Q ∧ gathB (headB E Q ims) = inB ims ∧ nOf (inB ims) = ims.length := by
  obtain ⟨h1, h2, h3, h4, h5, h6, h7⟩ := rightG_out h
  obtain ⟨e1, e2⟩ := head_num (E := E) (Q := Q) h6 (by omega) (by omega)
  have e3 : gathB (headB E Q ims) = inB ims := gath_spread (stampB_length _ _) (inB_length ims h6)
  have e4 := in_n ims h6
  refine ⟨?_, e1, e2, e3, e4⟩
  rw [isHead_alt (headB_length E Q ims h6) (by rw [e3, e4]; exact h6), e1, e2, e3, e4]
  have hf : (rdIms (inB ims) ims.length).map (·.1) = ims.map (·.1) := by
    simp [rdIms, List.map_fst_zip, nsOf_length, shI_length, in_ns ims h7]
  have hr : rightG (E : Int) (Q : Int) (rdIms (inB ims) ims.length) = true := by
    refine decide_eq_true ⟨h1, h2, h3, h4, by rw [rdIms_length]; exact h5, by rw [rdIms_length]; exact h6, fun y hy => ?_, by rw [hf]; exact h7.2⟩
    obtain ⟨i, hi, rfl⟩ := List.getElem_of_mem hy
    have hi' : i < ims.length := by rwa [rdIms_length] at hi
    have hg := rd_put ims h7 i _ (List.getElem?_eq_getElem hi')
    rw [List.getElem?_eq_getElem hi] at hg
    have hb := h7.1 _ (List.getElem_mem hi')
    rw [Option.some.inj hg]
    exact ⟨hb.1, hb.2.1, by rw [shownB_length, zeros_length]⟩
  have ht : headB E Q (rdIms (inB ims) ims.length) = headB E Q ims := by
    have e : tabB (rdIms (inB ims) ims.length) = tabB ims := by
      refine tabB_ext _ _ (by rw [rdIms_length]) fun i x y hx hy => ?_
      rw [rd_put ims h7 i y hy] at hx
      cases hx
      exact ⟨rfl, by rw [hid_shown (zeros_length _) (hidB_length _)]⟩
    exact head_ext E Q _ _ (rdIms_length _ _) e
  rw [hr, ht]
  simp
theorem ok_put {E Q : Nat} {ims : List Img} (h : rightG (E : Int) (Q : Int) ims = true) : getOK (putB E Q ims) = true := by
  obtain ⟨e1, e2, e3, e4, e5⟩ := head_put h
  obtain ⟨h1, h2, h3, h4, h5, h6, h7⟩ := rightG_out h
  unfold putB getOK
  simp only [e1, e2, e3, e4, e5, List.length_map, decide_true, Bool.true_and, List.all_eq_true]
  intro b hb
  obtain ⟨x, hx, rfl⟩ := List.mem_map.1 hb
  exact decide_eq_true ⟨h1, h2, h3, h4, by simpa using stamped_mark (h7.1 x hx).2.2⟩
end Go.Proofs.Ytknhfaplddgnlaa
