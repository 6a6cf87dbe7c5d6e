/- A range over a function: a drawn region in a round; slices.Chunk. -/
import Derived.Shelf.Abstract
import Derived.RangeFuncNested
import Derived.RangeFuncBound
import Derived.RangeFuncCalls
import Derived.RangeFuncLeaves
import Derived.RangeFuncBox
import Derived.OwnWalkIn
import Derived.TacticsInMore
import Derived.LoopNIn
import Derived.LoopIn
import Derived.OrdersIn
import Derived.Test.YtddejjmebokgiaaDkK
namespace Go.Proofs.Ytddejjmebokgiaa
open Go.RowKit
set_option maxHeartbeats 3200000
set_option maxRecDepth 100000
set_option linter.unusedVariables false
set_option linter.unusedSimpArgs false
attribute [local go_sem] Oper.semAt_some

theorem rows_in {l n : Nat} {P : Program} {row : String} {args : Array Value} {w : World} {R : Value → World → Prop} (h : Rows P row args w R) : RowsIn (Fence.wide.inRound l) n P row args w R :=
  fun c cs _ => let ⟨v, w', r, s⟩ := h c cs; ⟨v, w', r, stepsIn_wide.2 s⟩
theorem calls_in {l n : Nat} {P : Program} {f : FuncId} {args : Array Value} {w : World} {R : Ending → World → Prop} (h : Calls P f args w R) : CallsIn (Fence.wide.inRound l) n P f args w R :=
  CallsIn.inRound l (callsIn_wide.2 h)
theorem upon_in {l n : Nat} {P : Program} {o : Oper} {a : Act} {K : Act → World → Prop} {Q : Exit → Act → World → Prop} {r : Result Next} (h : o.upon P a K Q r) : o.uponIn (Fence.wide.inRound l) n P a K Q r := by
  cases r with
  | ok x w' =>
    cases x <;> simp only [Oper.upon, Oper.uponIn] at h ⊢ <;>
      first
        | exact h
        | exact ⟨fun e => by simp [Fence.wide] at e, calls_in h⟩
        | exact ⟨fun e => by simp [Fence.wide] at e, rows_in h⟩
        | exact h.elim
  | halt x w' => cases x <;> simp only [Oper.upon, Oper.uponIn] at h ⊢ <;> exact h
theorem wpOp_in {l n i : Nat} {P : Program} {ops : Array Oper} {Q : Exit → Act → World → Prop} {K : Act → World → Prop} {a : Act} {w : World} (hnd : ∀ o ∈ ops, ∀ c, o.op ≠ .defer c) (hQ : ¬ LetsOut Q)
    (h : wpOp P ops Q i K a w) : wpOpIn (Fence.wide.inRound l) n P ops Q i K a w := by
  unfold wpOp at h
  unfold wpOpIn
  cases ho : ops[i]? with
  | none => simpa [ho] using h
  | some o =>
    simp only [ho] at h ⊢
    split
    · rename_i hw
      simp only [hw, if_true] at h
      rcases h with h | ⟨_, h⟩
      · refine ⟨fun _ _ => trivial, ?_⟩
        show o.uponIn _ n P a K Q ((Oper.semAt (some l) a.eval o).run P w)
        rw [Oper.semAt_some l _ o (hnd o (Array.mem_of_getElem? ho))]
        exact upon_in h
      · exact absurd h hQ
    · rename_i hw
      simp only [hw] at h
      exact ⟨fun _ _ => trivial, h⟩
theorem wpAny_in {l n : Nat} {P : Program} {md : Region.Mode} {ops : Array Oper} {Q : Exit → Act → World → Prop} (hnd : ∀ o ∈ ops, ∀ c, o.op ≠ .defer c) (hQ : ¬ LetsOut Q) :
    ∀ (fuel : Nat) (listed : Array Bool) (a : Act) (w : World), wpAny P md ops Q fuel listed a w → wpAnyIn (Fence.wide.inRound l) n P md ops Q fuel listed a w
  | 0, _, _, _, h => h
  | fuel + 1, listed, a, w, h => ⟨h.1, fun i hi => wpOpIn_mono (fun a' w' h' => wpAny_in hnd hQ fuel _ a' w' h') (wpOp_in hnd hQ (h.2 i hi))⟩
/-- A region that draws its order, in a round: as anywhere. -/
theorem region_in {l n id : Nat} {P : Program} {ops : Array Oper} {Q : Exit → Act → World → Prop} {a : Act} {w : World} (hm : P.follows .mixedOrders = true) (hnd : ∀ o ∈ ops, ∀ c, o.op ≠ .defer c) (hQ : ¬ LetsOut Q) {S : World → Prop} (hS : S w.drew)
    (h : S w.drew → wpAnyH P .any ops Q S ops.size (Array.replicate ops.size false) a w.drew) : (Code.region id ops true).wpIn (Fence.wide.inRound l) n P Q a w :=
  wpIn_region_any hm (wpAny_in hnd hQ _ _ _ _ (wpAny_of_held _ _ _ _ (h hS)))

theorem Chunk_any (w : World) (g n c : Nat) :
    Calls Try.prog 46 #[.slice (some ⟨g, 0, none⟩) n c, .int .i64 4096] w fun e w' => e = .returned (.func (.func 62) #[] #[.pointer (some ⟨w.heap.size, 0, none⟩), .pointer (some ⟨w.heap.size + 1, 0, none⟩)]) ∧
      w' = (w.alloc (.cells #[.slice (some ⟨g, 0, none⟩) n c] 30)).alloc (.cells #[.int .i64 4096] 3) := by
  have hmf : ∀ (fn : Fn) (first cap : Array Value) (w : World), (Instr.makeFunc fn first cap).run Try.prog w = .ok (.func fn first cap) w := fun _ _ _ _ => rfl
  go_enter Try.func46, Try.ntmps46
  go_wp2
  go_ret
  exact ⟨rfl, rfl⟩
def chV (g x : Nat) : Value := .slice (some ⟨g, x * 4096, none⟩) 4096 4096
/-- What the iterator's two boxes hold is kept. -/
def KpB (b1 b2 : Nat) (W W' : World) : Prop := W'.heap[b1]? = W.heap[b1]? ∧ W'.heap[b2]? = W.heap[b2]?
theorem chunk1_in (n : Nat) (hn : 1 ≤ n) (l Bs Bn g m cap : Nat) (hcap : 4096 * m ≤ cap) (hcm : cap ≤ 9223372036854775807) (hm : m ≤ 512) (J Jx : List Nat → World → Prop) (BJ : Nat) (hJ : AbidesFrom BJ J)
    (hY : ∀ pre x W, J pre W → pre.length < m → YieldAt Fence.wide (n - 1) Try.prog l #[chV g x] W fun e W' =>
      (e = .returned (.bool true) ∧ J (pre ++ [x]) W' ∧ KpB Bs Bn W W') ∨ (e = .returned (.bool false) ∧ Jx (pre ++ [x]) W'))
    (W : World) (hBs : W.heap[Bs]? = some (.cells #[.slice (some ⟨g, 0, none⟩) (4096 * m) cap] 30 (0, 0))) (hBn : W.heap[Bn]? = some (.cells #[.int .i64 4096] 3 (0, 0))) (h0 : J [] W) :
    CallsIn Fence.wide n Try.prog 62 #[.func (.yield l) #[] #[], .pointer (some ⟨Bs, 0, none⟩), .pointer (some ⟨Bn, 0, none⟩)] W fun e W' => (∃ v, e = .returned v) ∧
      ((∃ ys, ys = List.range m ∧ J ys W') ∨ (∃ pre, True ∧ Jx pre W')) := by
  refine callsIn_of_wp Try.func62 rfl trivial ?_ rfl
  simp only [Try.ntmps62, List.size_toArray, List.length_cons, List.length_nil, Nat.reduceAdd, Nat.reduceSub, Array.replicate_succ, Array.replicate_zero, List.push_toArray, List.append_toArray, List.nil_append, List.cons_append]
  gi_wp2
  gi_loopw [4] (fun i wr => ∃ k : Nat, k ≤ m ∧ i = .int .i64 ((k : Int) * 4096) ∧ J (List.range k) wr ∧ wr.heap[Bs]? = some (.cells #[.slice (some ⟨g, 0, none⟩) (4096 * m) cap] 30 (0, 0)) ∧ wr.heap[Bn]? = some (.cells #[.int .i64 4096] 3 (0, 0)))
    (fun i _ => 4096 * m - (intOf i).toNat)
  case atStart => exact ⟨0, Nat.zero_le _, rfl, h0, hBs, hBn⟩
  case round =>
    obtain ⟨k, hk, rfl, hJs, hs, hb⟩ := hrel
    have s0 : wr.cell? ⟨Bs, 0, none⟩ = some (.slice (some ⟨g, 0, none⟩) (4096 * m) cap) := by rw [cell_of_row _ _ _ _ _ _ hs]; rfl
    have n0 : wr.cell? ⟨Bn, 0, none⟩ = some (.int .i64 4096) := by rw [cell_of_row _ _ _ _ _ _ hb]; rfl
    by_cases hlt : k < m
    · have hmin : ∀ (ts : Array TypeId) (t : TypeId) (W : World), (Builtin.min_ ts t #[.int .i64 4096, .int .i64 ((4096 * m - k * 4096 : Nat) : Int)]).run Try.prog W = .ok (.int .i64 4096) W := by
        intro ts t W
        have e : (if ((4096 * m - k * 4096 : Nat) : Int) < (4096 : Int) then ((4096 * m - k * 4096 : Nat) : Int) else 4096) = 4096 := by split <;> omega
        rw [run_min_int2, e]
      gi_wp2
      refine wpIn_wide.2 ?_
      go_quiet (fail)
      have hJd : J (List.range k) (wr.drewN nq) := hJ _ wr _ none hJs ⟨rfl, rfl, rfl, Nat.le_refl _, fun _ _ _ => rfl⟩ (fun r e => by cases e)
      obtain ⟨fn, tmps, assign, body, hy, hR⟩ := hY _ k (wr.drewN nq) hJd (by rw [List.length_range]; exact hlt)
      dsimp only [chV] at hy
      clear hJd
      have ha1 : (k : Int) * 4096 + 4096 = ((k + 1 : Nat) : Int) * 4096 := by omega
      have n1 : (wr.drewN nq).cell? ⟨Bn, 0, none⟩ = some (.int .i64 4096) := n0
      have s1 : (wr.drewN nq).cell? ⟨Bs, 0, none⟩ = some (.slice (some ⟨g, 0, none⟩) (4096 * m) cap) := s0
      have HS := hid hs; have HB := hid hb
      clear hs hb hmin hJs
      gi_wp2
      rw [show (k + 1) * 4096 - k * 4096 = 4096 by omega, hy]
      refine ⟨fun _ => hn, ?_⟩
      refine hR.mono ?_
      rintro e W3 (⟨rfl, hJ3, hk3⟩ | ⟨rfl, hJx3⟩)
      · have hs3 := hk3.1.trans HS.out
        have hb3 := hk3.2.trans HB.out
        have n3 : W3.cell? ⟨Bn, 0, none⟩ = some (.int .i64 4096) := by rw [cell_of_row _ _ _ _ _ _ hb3]; rfl
        have HS3 := hid hs3; have HB3 := hid hb3; have HJ3 := hid hJ3
        clear hs3 hb3 hJ3 hk3
        gi_wp2
        go_roundw
        case rel => exact ⟨k + 1, by omega, by go_num, by rw [List.range_succ]; exact HJ3.out, HS3.out, HB3.out⟩
        case measure => simp [intOf]; omega
      · gi_wp2
        refine bodyPost_ret (results_none rfl _ _ _) rfl ?_
        exact ⟨⟨_, rfl⟩, .inr ⟨_, trivial, hJx3⟩⟩
    · obtain rfl : k = m := by omega
      gi_wp2
      go_end0
      exact ⟨⟨_, rfl⟩, .inl ⟨_, rfl, hJs⟩⟩
end Go.Proofs.Ytddejjmebokgiaa
