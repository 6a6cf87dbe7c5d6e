/- build and buildSlice, without the function's slots in sight (a function of 238 slots). -/
import Derived.Test.YtknhfaplddgnlaaNumC
namespace Go.Proofs.Ytknhfaplddgnlaa
open Go.RowKit
set_option maxHeartbeats 1500000
set_option maxRecDepth 100000
set_option linter.unusedVariables false
set_option linter.unusedSimpArgs false

section
variable {ops : Array Oper} {rest : List Oper} {o : Oper} {a : Act} {Q : Exit → Act → World → Prop} {W : World}
theorem bs1_step (hgd : o.guard = none) (T : TypeId) (x0 : Operand) (ho : o.op = .buildSlice T 1 #[(0, x0)]) (v0 : Value) (h0 : a.eval x0 = v0) (s : Value) (W' : World)
    (hr : (Instr.buildSlice T 1 #[(0, v0)]).run Try.prog W = .ok s W') (h : wpList Try.prog ops Q rest (a.put o.dst s) W') : wpList Try.prog ops Q (o :: rest) a W := by
  refine wpList_plain hgd fun K hK => ?_
  unfold Oper.wp execOp
  simp only [ho, List.map_toArray, List.map_cons, List.map_nil, h0, Sem.run_bind, hr, Result.andThen_ok, Sem.run_pure]
  exact hK _ _ h
theorem bs2_step (hgd : o.guard = none) (T : TypeId) (x0 x1 : Operand) (ho : o.op = .buildSlice T 2 #[(0, x0), (1, x1)]) (v0 v1 : Value) (h0 : a.eval x0 = v0) (h1 : a.eval x1 = v1) (s : Value) (W' : World)
    (hr : (Instr.buildSlice T 2 #[(0, v0), (1, v1)]).run Try.prog W = .ok s W') (h : wpList Try.prog ops Q rest (a.put o.dst s) W') : wpList Try.prog ops Q (o :: rest) a W := by
  refine wpList_plain hgd fun K hK => ?_
  unfold Oper.wp execOp
  simp only [ho, List.map_toArray, List.map_cons, List.map_nil, h0, h1, Sem.run_bind, hr, Result.andThen_ok, Sem.run_pure]
  exact hK _ _ h
theorem bd2_step (hgd : o.guard = none) (T : TypeId) (x0 x1 : Operand) (ho : o.op = .build T #[(0, x0), (1, x1)]) (v0 v1 : Value) (h0 : a.eval x0 = v0) (h1 : a.eval x1 = v1) (s : Value) (W' : World)
    (hr : (Instr.build T #[(0, v0), (1, v1)]).run Try.prog W = .ok s W') (h : wpList Try.prog ops Q rest (a.put o.dst s) W') : wpList Try.prog ops Q (o :: rest) a W := by
  refine wpList_plain hgd fun K hK => ?_
  unfold Oper.wp execOp
  simp only [ho, List.map_toArray, List.map_cons, List.map_nil, h0, h1, Sem.run_bind, hr, Result.andThen_ok, Sem.run_pure]
  exact hK _ _ h
theorem bd3_step (hgd : o.guard = none) (T : TypeId) (x0 x1 x2 : Operand) (ho : o.op = .build T #[(0, x0), (1, x1), (2, x2)]) (v0 v1 v2 : Value) (h0 : a.eval x0 = v0) (h1 : a.eval x1 = v1) (h2 : a.eval x2 = v2) (s : Value) (W' : World)
    (hr : (Instr.build T #[(0, v0), (1, v1), (2, v2)]).run Try.prog W = .ok s W') (h : wpList Try.prog ops Q rest (a.put o.dst s) W') : wpList Try.prog ops Q (o :: rest) a W := by
  refine wpList_plain hgd fun K hK => ?_
  unfold Oper.wp execOp
  simp only [ho, List.map_toArray, List.map_cons, List.map_nil, h0, h1, h2, Sem.run_bind, hr, Result.andThen_ok, Sem.run_pure]
  exact hK _ _ h
variable {K : Act → World → Prop} {E : Prop}
theorem bs2_draw (hgd : o.guard = none) (T : TypeId) (x0 x1 : Operand) (ho : o.op = .buildSlice T 2 #[(0, x0), (1, x1)]) (v0 v1 : Value) (h0 : a.eval x0 = v0) (h1 : a.eval x1 = v1) (s : Value) (W' : World)
    (hr : (Instr.buildSlice T 2 #[(0, v0), (1, v1)]).run Try.prog W = .ok s W') (h : K (a.put o.dst s) W') : if Region.wanted o (yielded ops a.tmps) = true then Oper.wp Try.prog o a W K Q else E := by
  rw [if_pos (by simp [Region.wanted, hgd])]
  unfold Oper.wp execOp
  simp only [ho, List.map_toArray, List.map_cons, List.map_nil, h0, h1, Sem.run_bind, hr, Result.andThen_ok, Sem.run_pure]
  exact h
theorem bs9_draw (hgd : o.guard = none) (T : TypeId) (ho : o.op = .buildSlice T 9 #[(0, .const (.int .u8 0)), (1, .const (.int .u8 0)), (2, .const (.int .u8 1)), (3, .const (.int .u8 0)), (4, .const (.int .u8 0)), (5, .const (.int .u8 0)), (6, .const (.int .u8 0)), (7, .const (.int .u8 1)), (8, .const (.int .u8 97))]) (s : Value) (W' : World)
    (hr : (Instr.buildSlice T 9 #[(0, .int .u8 0), (1, .int .u8 0), (2, .int .u8 1), (3, .int .u8 0), (4, .int .u8 0), (5, .int .u8 0), (6, .int .u8 0), (7, .int .u8 1), (8, .int .u8 97)]).run Try.prog W = .ok s W') (h : K (a.put o.dst s) W') :
    if Region.wanted o (yielded ops a.tmps) = true then Oper.wp Try.prog o a W K Q else E := by
  have hc : ∀ v, a.eval (.const v) = v := fun _ => rfl
  rw [if_pos (by simp [Region.wanted, hgd])]
  unfold Oper.wp execOp
  simp only [ho, List.map_toArray, List.map_cons, List.map_nil, hc, Sem.run_bind, hr, Result.andThen_ok, Sem.run_pure]
  exact h
end
theorem run_bs9 (W : World) : (Instr.buildSlice 31 9 #[(0, .int .u8 0), (1, .int .u8 0), (2, .int .u8 1), (3, .int .u8 0), (4, .int .u8 0), (5, .int .u8 0), (6, .int .u8 0), (7, .int .u8 1), (8, .int .u8 97)]).run Try.prog W = .ok (.slice (some ⟨W.heap.size, 0, none⟩) 9 9) (W.alloc (.cells #[.int .u8 0, .int .u8 0, .int .u8 1, .int .u8 0, .int .u8 0, .int .u8 0, .int .u8 0, .int .u8 1, .int .u8 97] 5)) := by
  go_simp
theorem run_bsL (W : World) (a b : Option Addr) (n m c d : Nat) : (Instr.buildSlice 22 2 #[(0, .slice a n c), (1, .slice b m d)]).run Try.prog W = .ok (.slice (some ⟨W.heap.size, 0, none⟩) 2 2) (W.alloc (.cells #[.slice a n c, .slice b m d] 31)) := by
  go_simp
theorem run_bsI1 (W : World) (x : Int) (a : Option Addr) (n c : Nat) : (Instr.buildSlice 26 1 #[(0, .agg #[.int .i64 x, .slice a n c])]).run Try.prog W = .ok (.slice (some ⟨W.heap.size, 0, none⟩) 1 1) (W.alloc (.cells #[.int .i64 x, .slice a n c] 38)) := by
  go_simp
theorem run_bsI2 (W : World) (x y : Int) (a b : Option Addr) (n c m d : Nat) : (Instr.buildSlice 26 2 #[(0, .agg #[.int .i64 x, .slice a n c]), (1, .agg #[.int .i64 y, .slice b m d])]).run Try.prog W = .ok (.slice (some ⟨W.heap.size, 0, none⟩) 2 2) (W.alloc (.cells #[.int .i64 x, .slice a n c, .int .i64 y, .slice b m d] 38)) := by
  go_simp
theorem run_bdI (W : World) (x : Int) (a : Option Addr) (n c : Nat) : (Instr.build 38 #[(0, .int .i64 x), (1, .slice a n c)]).run Try.prog W = .ok (.agg #[.int .i64 x, .slice a n c]) W := by
  go_simp
theorem run_bdG2 (W : World) (x y : Int) : (Instr.build 28 #[(0, .int .i64 x), (1, .int .i64 y)]).run Try.prog W = .ok (.agg #[.int .i64 x, .int .i64 y, .slice none 0 0]) W := by
  go_simp
theorem run_bdG3 (W : World) (x y : Int) (a : Option Addr) (n c : Nat) : (Instr.build 28 #[(0, .int .i64 x), (1, .int .i64 y), (2, .slice a n c)]).run Try.prog W = .ok (.agg #[.int .i64 x, .int .i64 y, .slice a n c]) W := by
  go_simp
end Go.Proofs.Ytknhfaplddgnlaa
