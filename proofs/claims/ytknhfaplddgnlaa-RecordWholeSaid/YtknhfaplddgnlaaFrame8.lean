/- Lists of bytes, and a group, that came in. -/
import Derived.Test.YtknhfaplddgnlaaFrame5
import Derived.Test.YtknhfaplddgnlaaRecAA
namespace Go.Proofs.Ytknhfaplddgnlaa
open Go.ChangeShapes Go.WideShapes Go.ChangeAt Go.RowKit Go.Deep
set_option linter.unusedVariables false
set_option linter.unusedSimpArgs false

theorem cells_i8 : Try.prog.cellsOf 3 = 1 := by kernel_rfl
theorem cells_b8 : Try.prog.cellsOf 5 = 1 := by kernel_rfl
theorem bytes_b8 : Try.prog.bytesOf 5 = 1 := by kernel_rfl
theorem cells_bs8 : Try.prog.cellsOf 31 = 1 := by kernel_rfl
theorem bytes_bs8 : Try.prog.bytesOf 31 = 24 := by kernel_rfl
theorem cells_img8 : Try.prog.cellsOf 38 = 2 := by kernel_rfl
theorem bytes_img8 : Try.prog.bytesOf 38 = 32 := by kernel_rfl
theorem cells_imgs8 : Try.prog.cellsOf 26 = 1 := by kernel_rfl
theorem cells_grp8 : Try.prog.cellsOf 28 = 3 := by kernel_rfl
section
variable {H : Type} {enc : TypeId × Value → H} {W : World} {base : Nat}
def BsR (W : World) (cs : List Value) : Prop := ∃ (a : Option Addr) (cap : Nat) (l : List UInt8), cs = [.slice a l.length cap] ∧ (l.length ≤ cap ∧ cap ≤ 9223372036854775807) ∧ l.length ≤ 200000000000000 ∧ RdB W a l
theorem opens_bytes : Opens enc W base 31 (BsR W) := by
  refine (opens_slice Try.underlying31 cells_b8 bytes_b8 (by decide) (opens_u8 Try.underlying5)).mono ?_
  intro cs h
  obtain ⟨a, cap, l, rfl, h1, h2, h3, h4⟩ := slr_list (fun b : UInt8 => [Value.int .u8 (b.toNat : Int)]) (fun _ => True) (fun es ⟨n, hn, h256⟩ => ⟨UInt8.ofNat n, by rw [hn]; simp [UInt8.toNat_ofNat, Nat.mod_eq_of_lt h256], trivial⟩) h
  refine ⟨a, cap, l, rfl, ⟨h1, h2⟩, ?_, rd_one h4⟩
  have : reachBytes < 2 ^ 47 := reachBytes_lt
  have e : (2 : Nat) ^ 47 = 140737488355328 := by decide
  omega
abbrev ImgA := Int × Option Addr × Nat × List UInt8
def imgC (y : ImgA) : List Value := [.int .i64 y.1, .slice y.2.1 y.2.2.2.length y.2.2.1]
def imgOk (W : World) (y : ImgA) : Prop := (y.2.2.2.length ≤ y.2.2.1 ∧ y.2.2.1 ≤ 9223372036854775807) ∧ y.2.2.2.length ≤ 200000000000000 ∧ RdB W y.2.1 y.2.2.2
def imgR (W : World) : Nat → List Value → Prop
  | 0 => fun cs => ∃ n : Int, cs = [.int .i64 n] ∧ -9223372036854775808 ≤ n ∧ n ≤ 9223372036854775807
  | _ => BsR W
theorem two_list {cs : List Value} (h : cs.length = 2) : ∃ a b, cs = [a, b] := by
  match cs, h with
  | [a, b], _ => exact ⟨a, b, rfl⟩
theorem opens_img : Opens enc W base 38 (fun cs => ∃ y : ImgA, cs = imgC y ∧ imgOk W y) := by
  have h := opens_struct (enc := enc) (W := W) (base := base) Try.underlying38 cells_img8 (imgR W) (by
    intro i f hf
    match i, hf with
    | 0, hf => cases hf; exact opens_i64 Try.underlying3
    | 1, hf => cases hf; exact opens_bytes
    | i + 2, hf => simp at hf)
  refine h.mono ?_
  rintro cs ⟨hl, hf⟩
  obtain ⟨u, v, rfl⟩ := two_list hl
  obtain ⟨n, h0, _⟩ := hf 0 _ rfl
  obtain ⟨a, cap, l, h1, h2, h3, h4⟩ := hf 1 _ rfl
  simp [cells_i8, cells_bs8] at h0 h1
  subst h0 h1
  exact ⟨(n, a, cap, l), rfl, h2, h3, h4⟩
def ImsR (W : World) (cs : List Value) : Prop := ∃ (a : Option Addr) (cap : Nat) (ims : List Img), cs = [.slice a ims.length cap] ∧ ims.length ≤ 4398046511104 ∧ (∀ x ∈ ims, x.2.length ≤ 200000000000000) ∧ RdG W a ims
theorem opens_imgs : Opens enc W base 26 (ImsR W) := by
  refine (opens_slice Try.underlying26 cells_img8 bytes_img8 (by decide) opens_img).mono ?_
  intro cs h
  obtain ⟨a, cap, l, rfl, h1, h2, h3, h4⟩ := slr_list imgC (imgOk W) (fun es hes => hes) h
  have hrb : reachBytes < 2 ^ 47 := reachBytes_lt
  have e47 : (2 : Nat) ^ 47 = 140737488355328 := by decide
  refine ⟨a, cap, l.map (fun y => (y.1, y.2.2.2)), by simp, by rw [List.length_map]; omega, fun x hx => ?_, fun i x hx => ?_⟩
  · obtain ⟨y, hy, rfl⟩ := List.mem_map.1 hx
    obtain ⟨i, hi, rfl⟩ := List.getElem_of_mem hy
    exact (h4 i _ (List.getElem?_eq_getElem hi)).1.2.1
  · rw [List.getElem?_map] at hx
    obtain ⟨y, hy, rfl⟩ := Option.map_eq_some_iff.1 hx
    obtain ⟨g1, _, b, off, ea, hc⟩ := h4 i y hy
    exact ⟨b, off, y.2.1, y.2.2.1, ea, hc 0 _ rfl, hc 1 _ rfl, g1.2.2, g1.1⟩
/-- A list of lists of bytes that came in. -/
theorem open_lists {d : DataW H} {ps : List MemPlace} {ts : List TypeId} {ds : List (DataW H)} {j : Nat} {a : Option Addr} {len cap : Nat}
    (hsz : (DataW.weightsEach Try.prog ts ds).all (· ≤ reachBytes) = true) (ht : ts[j]? = some 22) (hd : ds[j]? = some d)
    (h : DataW.Trod enc Try.prog W base (fun _ => true) true 22 (.slice a len cap) d ps) :
    ∃ l : List (List UInt8), len = l.length ∧ (len ≤ cap ∧ cap ≤ 9223372036854775807) ∧ (∀ x ∈ l, x.length ≤ 200000000000000) ∧ RdLs W a l := by
  have h1 := opens_arg (opens_slice Try.underlying22 cells_bs8 bytes_bs8 (by decide) opens_bytes) hsz ht hd h
  obtain ⟨a', cap', l, hcs, g1, g2, g3, g4⟩ := slr_list (fun y : Option Addr × Nat × List UInt8 => [Value.slice y.1 y.2.2.length y.2.1]) (fun y => (y.2.2.length ≤ y.2.1 ∧ y.2.1 ≤ 9223372036854775807) ∧ y.2.2.length ≤ 200000000000000 ∧ RdB W y.1 y.2.2) (fun es ⟨b, cp, x, e, e1, e2, e3⟩ => ⟨(b, cp, x), e, e1, e2, e3⟩) h1
  simp [Value.cells] at hcs
  obtain ⟨rfl, rfl, rfl⟩ := hcs
  refine ⟨l.map (·.2.2), by simp, ⟨g1, g2⟩, fun x hx => ?_, fun i x hx => ?_⟩
  · obtain ⟨y, hy, rfl⟩ := List.mem_map.1 hx
    obtain ⟨i, hi, rfl⟩ := List.getElem_of_mem hy
    exact (g4 i _ (List.getElem?_eq_getElem hi)).1.2.1
  · rw [List.getElem?_map] at hx
    obtain ⟨y, hy, rfl⟩ := Option.map_eq_some_iff.1 hx
    obtain ⟨q1, _, b, off, ea, hc⟩ := g4 i y hy
    have := hc 0 _ rfl
    rw [Nat.mul_one] at this
    exact ⟨b, off, y.1, y.2.1, ea, this, q1.2.2, q1.1⟩
def grpR (W : World) : Nat → List Value → Prop
  | 0 | 1 => fun cs => ∃ n : Int, cs = [.int .i64 n] ∧ -9223372036854775808 ≤ n ∧ n ≤ 9223372036854775807
  | _ => ImsR W
theorem three_arr {α : Type} {cs : Array α} (h : cs.size = 3) : ∃ a b c, cs = #[a, b, c] := by
  obtain ⟨l⟩ := cs
  match l, h with
  | [a, b, c], _ => exact ⟨a, b, c, rfl⟩
/-- A group that came in. -/
theorem open_grp2 {r : Reach} {b0 : Nat} {v : Value} {d : DataW H} {ps : List MemPlace} {ts : List TypeId} {ds : List (DataW H)} {j : Nat}
    (hsz : (DataW.weightsEach Try.prog ts ds).all (· ≤ reachBytes) = true) (ht : ts[j]? = some 28) (hd : ds[j]? = some d)
    (hv : Value.okWide Try.prog W r b0 28 v)
    (h : DataW.Trod enc Try.prog W base (fun _ => true) true 28 v d ps) :
    ∃ (ep seq : Int) (a : Option Addr) (c : Nat) (ims : List Img), v = .agg #[.int .i64 ep, .int .i64 seq, .slice a ims.length c] ∧ (-9223372036854775808 ≤ ep ∧ ep ≤ 9223372036854775807) ∧ (-9223372036854775808 ≤ seq ∧ seq ≤ 9223372036854775807) ∧ ims.length ≤ 4398046511104 ∧ (∀ x ∈ ims, x.2.length ≤ 200000000000000) ∧ RdG W a ims := by
  obtain ⟨cs, rfl, hsize⟩ := okWide_struct Try.underlying28 hv
  obtain ⟨c0, c1, c2, rfl⟩ := three_arr (hsize.trans cells_grp8)
  have hO := opens_struct (enc := enc) (W := W) (base := base) Try.underlying28 cells_grp8 (grpR W) (by
    intro i f hf
    match i, hf with
    | 0, hf => cases hf; exact opens_i64 Try.underlying3
    | 1, hf => cases hf; exact opens_i64 Try.underlying3
    | 2, hf => cases hf; exact opens_imgs
    | i + 3, hf => simp at hf)
  obtain ⟨_, hf⟩ := opens_arg hO hsz ht hd h
  obtain ⟨ep, h0, hb0⟩ := hf 0 _ rfl
  obtain ⟨seq, h1, hb1⟩ := hf 1 _ rfl
  obtain ⟨a, cap, ims, h2, hnl, h3, h4⟩ := hf 2 _ rfl
  simp [Value.cells, cells_i8, cells_imgs8] at h0 h1 h2
  subst h0 h1 h2
  exact ⟨ep, seq, a, cap, ims, rfl, hb0, hb1, hnl, h3, h4⟩
theorem open_grp {r : Reach} {b0 : Nat} {v : Value} {d : DataW H} {ps : List MemPlace} {ts : List TypeId} {ds : List (DataW H)} {j : Nat}
    (hsz : (DataW.weightsEach Try.prog ts ds).all (· ≤ reachBytes) = true) (ht : ts[j]? = some 28) (hd : ds[j]? = some d)
    (hv : Value.okWide Try.prog W r b0 28 v)
    (h : DataW.Trod enc Try.prog W base (fun _ => true) true 28 v d ps) :
    ∃ (ep seq : Int) (a : Option Addr) (c : Nat) (ims : List Img), v = .agg #[.int .i64 ep, .int .i64 seq, .slice a ims.length c] ∧ (-9223372036854775808 ≤ ep ∧ ep ≤ 9223372036854775807) ∧ (-9223372036854775808 ≤ seq ∧ seq ≤ 9223372036854775807) ∧ (∀ x ∈ ims, x.2.length ≤ 200000000000000) ∧ RdG W a ims := by
  obtain ⟨ep, seq, a, c, ims, h1, h2, h3, _, h5, h6⟩ := open_grp2 hsz ht hd hv h
  exact ⟨ep, seq, a, c, ims, h1, h2, h3, h5, h6⟩
end
end Go.Proofs.Ytknhfaplddgnlaa
