/- Loops over functions: what a round does, and what the function that is ranged over promises; walks of round bodies out of plain walks. -/
import Derived.Test.YtknhfaplddgnlaaApart2
import Derived.RangeFuncNested
import Derived.TacticsIn
namespace Go.Proofs.Ytknhfaplddgnlaa
open Go.RowKit
set_option linter.unusedVariables false
set_option linter.unusedSimpArgs false

/-! From a plain walk to one within a round. -/
/-- No defer statement. -/
def plainOp (o : Oper) : Bool := match o.op with | .defer _ => false | _ => true
theorem plainOp_no {o : Oper} (h : plainOp o = true) : ∀ c, o.op ≠ .defer c := by
  intro c e
  unfold plainOp at h
  rw [e] at h
  cases h
theorem op_round {l n : Nat} {P : Program} {o : Oper} {a : Act} {w : World} {K K' : Act → World → Prop} {Q : Exit → Act → World → Prop} (hp : plainOp o = true) (hQ : ¬ LetsOut Q) (hK : ∀ a w, K a w → K' a w)
    (h : o.wp P a w K Q) : o.wpIn (Fence.wide.inRound l) n P a w K' Q := by
  refine ⟨fun _ _ => trivial, ?_⟩
  have e : o.semAt (Fence.wide.inRound l).round a.eval = execOp a.eval o := Oper.semAt_eq _ _ _ (plainOp_no hp)
  rw [e]
  unfold Oper.wp at h
  revert h
  generalize (execOp a.eval o).run P w = r
  intro h
  unfold Oper.upon at h
  unfold Oper.uponIn
  split at h
  · exact hK _ _ h
  · exact hK _ _ h
  · exact hK _ _ h
  · refine ⟨fun hd => (by simp [Fence.wide, Fence.inRound] at hd), ?_⟩
    refine CallsIn.inRound l (callsIn_wide.2 (h.mono ?_))
    intro e w1 h1
    split at h1
    · exact hK _ _ h1
    · exact h1
    · exact absurd h1 hQ
  · refine ⟨fun hd => (by simp [Fence.wide, Fence.inRound] at hd), ?_⟩
    intro c cs _
    obtain ⟨v, w1, h1, h2⟩ := h c cs
    exact ⟨v, w1, hK _ _ h1, (stepsIn_wide (P := P)).2 h2⟩
  · exact h
  · exact h.elim
theorem list_round {l n : Nat} {P : Program} {ops : Array Oper} {Q : Exit → Act → World → Prop} (hQ : ¬ LetsOut Q) : ∀ (os : List Oper) (a : Act) (w : World), os.all plainOp = true → wpList P ops Q os a w → wpListIn (Fence.wide.inRound l) n P ops Q os a w
  | [], _, _, _, h => h
  | o :: os, a, w, hp, h => by
    simp only [List.all_cons, Bool.and_eq_true] at hp
    unfold wpList at h
    unfold wpListIn
    split at h
    · rename_i hw
      rw [if_pos hw]
      rcases h with h | h
      · exact op_round hp.1 hQ (fun a w h => list_round hQ os a w hp.2 h) h
      · exact absurd h.2 hQ
    · rename_i hw
      rw [if_neg hw]
      exact ⟨fun _ _ => trivial, list_round hQ os _ w hp.2 h⟩
/-- A region of a round, walked as anywhere. -/
theorem region_round {l n : Nat} {P : Program} {id : Nat} {os : List Oper} {Q : Exit → Act → World → Prop} {a : Act} {w : World} (hp : os.all plainOp = true) (hQ : ¬ LetsOut Q)
    (h : wpList P os.toArray Q os a w) : (Code.region id os.toArray false).wpIn (Fence.wide.inRound l) n P Q a w :=
  wpIn_region_list (by simpa using list_round hQ os a w hp h)
theorem ops_round {l n : Nat} {P : Program} {ops : Array Oper} {Q : Exit → Act → World → Prop} (hQ : ¬ LetsOut Q) (hp : ∀ (i : Nat) (o : Oper), ops[i]? = some o → plainOp o = true) : ∀ (is : List Nat) (a : Act) (w : World), wpOps P ops Q is a w → wpOpsIn (Fence.wide.inRound l) n P ops Q is a w
  | [], _, _, h => h
  | i :: is, a, w, h => by
    unfold wpOps at h
    unfold wpOpsIn
    cases ho : ops[i]? with
    | none =>
      simp only [ho] at h ⊢
      exact ops_round hQ hp is a w h
    | some o =>
      simp only [ho] at h ⊢
      split at h
      · rename_i hw
        rw [if_pos hw]
        rcases h with h | h
        · exact op_round (hp i o ho) hQ (fun a w h => ops_round hQ hp is a w h) h
        · exact absurd h.2 hQ
      · rename_i hw
        rw [if_neg hw]
        exact ⟨fun _ _ => trivial, ops_round hQ hp is _ w h⟩
/-- A region of a round that draws its order. -/
theorem region_round_held {S : World → Prop} {l n : Nat} {P : Program} {id : Nat} {ops : Array Oper} {Q : Exit → Act → World → Prop} {a : Act} {w : World} (hm : P.follows .mixedOrders = true) (hp : ops.toList.all plainOp = true) (hQ : ¬ LetsOut Q) (hS : S w.drew)
    (h : S w.drew → wpAnyH P .any ops Q S ops.size (Array.replicate ops.size false) a w.drew) : (Code.region id ops true).wpIn (Fence.wide.inRound l) n P Q a w :=
  wpIn_region_draw fun t => by
    simp only [Region.schedule, hm, Bool.true_or, if_true]
    refine ops_round hQ (fun i o ho => ?_) _ _ _ (wpAny_sound ops.size t _ a _ (wpAny_of_held _ _ _ _ (h hS)))
    rw [List.all_eq_true] at hp
    refine hp o ?_
    rw [← Array.getElem?_toList] at ho
    exact List.mem_of_getElem? ho
end Go.Proofs.Ytknhfaplddgnlaa
