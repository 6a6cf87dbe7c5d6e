/- Pending, and SameInts. -/
import Derived.Test.YtddejjmebokgiaaDkF
import Derived.Deep.QuietTactic
import Derived.BigQuiet
namespace Go.Proofs.Ytddejjmebokgiaa
open Go.RowKit
variable {Q : Nat → Prop}
set_option maxHeartbeats 3200000
set_option maxRecDepth 100000
set_option linter.unusedVariables false
set_option linter.unusedSimpArgs false

def I64s (ns : List Nat) : List Value := ns.map fun (n : Nat) => Value.int .i64 (n : Int)
theorem I64s_length (ns : List Nat) : (I64s ns).length = ns.length := by simp [I64s]
theorem one_ints (ns : List Nat) : ∀ u ∈ I64s ns, u.oneCell' = true := by
  intro u hu
  obtain ⟨n, _, rfl⟩ := List.mem_map.1 hu
  rfl
theorem info_I : (Try.prog.info? 3).map (fun i => (i.zero, i.size, i.bytes)) = some (some (.int .i64 0), 1, 8) := by kernel_rfl
theorem RdV.two {w : World} {g : Nat} {xs : List Value} (h : RdV w (some ⟨g, 0, none⟩) xs) (j : Nat) (u : Value) (hu : xs[j]? = some u) : w.cell? ⟨g, j, none⟩ = some u := by
  obtain ⟨b, off, e, hc⟩ := h (by rintro rfl; simp at hu)
  simp only [Option.some.injEq, Addr.mk.injEq, and_true] at e
  obtain ⟨rfl, rfl⟩ := e
  have := hc j u hu
  rwa [Nat.zero_add] at this
theorem RdV.new' (w : World) (cs : Array Value) (t : TypeId) {g : Nat} (hg : g = w.heap.size) : RdV (w.alloc (.cells cs t)) (some ⟨g, 0, none⟩) cs.toList := by subst hg; exact RdV.new w cs t
theorem Pending_is {base : Nat} (w : World) (D : Nat) {S : Nat → Prop} {d : Dk} (h : IsDk Q base w D S d) :
    Calls Try.prog 25 #[ptr D] w fun e w' => ∃ A c, e = .returned (.slice A d.wn.length c) ∧ w'.ownsRow w.heap.size 3 1 (.slice A d.wn.length c) d.wn.length (I64s d.wn) ∧ Below w.heap.size w w' := by
  have hn := fun w => none_is (Q := Q) (base := base) w D (S := S) (d := d)
  unfold ptr at *
  have H := h
  obtain ⟨vs, gn, cn, vw, rfl, hD, hr, hp, ho⟩ := h.open_
  obtain ⟨xw, hxw, hdw⟩ := hp.w
  obtain ⟨A, c, rfl, hc, _⟩ := own_slice hxw
  obtain ⟨-, -, c2, -⟩ := nine hr
  have hin : ∀ k, k < d.wn.length → ∃ (g b off cc n : Nat), A = some ⟨g, 0, none⟩ ∧ w.cell? ⟨g, k * 2, none⟩ = some (.int .i64 (n : Int)) ∧ w.cell? ⟨g, k * 2 + 1, none⟩ = some (.slice (some ⟨b, off, none⟩) 4096 cc) ∧ d.wn[k]? = some n := by
    intro k hk
    obtain ⟨g, c', e, hg1, hg2⟩ := own_slice' hxw (by omega) (by decide)
    simp only [Value.slice.injEq, true_and] at e
    obtain ⟨rfl, rfl⟩ := e
    obtain ⟨u, hu, hdat⟩ := hdw.at_ (i := k) (by rw [← ho.wlen]; exact hk)
    have hl := ho.w4 _ (List.getElem_mem (show k < d.wd.length by rw [← ho.wlen]; exact hk))
    obtain ⟨b, off, cc, rfl, _, _⟩ := hdat.rd
    rw [hl] at hu
    obtain ⟨q1, q2⟩ := wcells_at d.wn xw k d.wn[k] _ (List.getElem?_eq_getElem hk) hu
    exact ⟨g, b, off, cc, d.wn[k], rfl, (RdV.own hxw).two _ _ q1, (RdV.own hxw).two _ _ q2, List.getElem?_eq_getElem hk⟩
  have hmax := ho.wmax
  have HIN := hid hin
  clear hin hr hp ho hxw hdw
  obtain ⟨N, hN⟩ : ∃ N, N = d.wn.length := ⟨_, rfl⟩
  rw [← hN] at hmax hc c2 ⊢
  have HNN := hid hN
  clear hN
  go_enter Try.func25, Try.ntmps25
  go_wp2_with fail
  refine (hn _ H).mono ?_
  rintro e w' ⟨rfl, rfl⟩
  clear hn H
  go_wp2_with fail
  go_loopw [3, 13] (fun s i wr => ∃ (k : Nat) (A1 : Option Addr) (c1 : Nat), k ≤ N ∧ i = .int .i64 k ∧ s = .slice A1 k c1 ∧ wr.ownsRow w.heap.size 3 1 (.slice A1 k c1) k (I64s (d.wn.take k)) ∧ Below w.heap.size w wr) (fun _ i _ => N - (intOf i).toNat)
  case atStart => exact ⟨0, none, 0, by omega, rfl, rfl, World.ownsRow_nil _ _ _ _, Below.refl _ _⟩
  case round =>
    obtain ⟨k, A1, c1, hk, rfl, rfl, hown, hb⟩ := hrel
    by_cases hlt : k < N
    · obtain ⟨g, b, off, cc, n, rfl, q1, q2, q3⟩ := HIN.out k (by rw [← HNN.out]; exact hlt)
      have p1 := cell_below hb q1
      have p2 := cell_below hb q2
      have hs := hb.size
      have Q3 := hid q3; have HB := hid hb
      clear q1 q2 q3 hb
      go_wp2_with (at_builtin; refine app_own rfl (.tmp 17) (.tmp 20) 22 3 (.int .i64 0) 1 8 rfl Try.underlying22 info_I rfl (by decide) (by decide) w.heap.size _ k _ rfl (own_below hown (((Below.refl _ _).alloc (Nat.le_refl _) _).alloc (by simp) _)) (some ⟨_, 0, none⟩) 1 1 [.int .i64 (n : Int)] rfl rfl (RdV.new' _ #[.int .i64 (n : Int)] _ (by simp)) (by simp [Value.oneCell']) (by omega) w ((HB.out.alloc HB.out.size _).alloc (by simp; omega) _) (by simp; omega) ?_; intro A3 c3 w3 h3 b3 _ _)
      go_roundw
      case rel =>
        refine ⟨k + 1, A3, c3, by omega, by go_num, rfl, ?_, b3⟩
        rw [show I64s (d.wn.take (k + 1)) = I64s (d.wn.take k) ++ [.int .i64 (n : Int)] by rw [List.take_add_one, Q3.out]; simp [I64s]]
        exact h3
      case measure => simp [intOf]; omega
    · obtain rfl : k = N := by omega
      have e : d.wn.take k = d.wn := by rw [List.take_of_length_le (by rw [HNN.out]; exact Nat.le_refl _)]
      rw [e] at hown
      go_wp2
      go_ret
      exact ⟨A1, c1, rfl, hown, hb⟩
theorem SameInts_self (w : World) (a b : Option Addr) (c e N : Nat) (l : List Nat) (hN : l.length = N) (hl : N ≤ 1000000) (h1 : RdV w a (I64s l)) (h2 : RdV w b (I64s l)) :
    Calls Try.prog 42 #[.slice a N c, .slice b N e] w fun x w' => x = .returned (.bool true) ∧ Below w.heap.size w w' := by
  have hin : ∀ k, k < N → ∃ (g o g' o' n : Nat), a = some ⟨g, o, none⟩ ∧ b = some ⟨g', o', none⟩ ∧ w.cell? ⟨g, o + k, none⟩ = some (.int .i64 (n : Int)) ∧ w.cell? ⟨g', o' + k, none⟩ = some (.int .i64 (n : Int)) := by
    intro k hk
    have hne : I64s l ≠ [] := by intro q; have := I64s_length l; rw [q] at this; simp at this; omega
    obtain ⟨g, o, rfl, q1⟩ := h1 hne
    obtain ⟨g', o', rfl, q2⟩ := h2 hne
    have hu : (I64s l)[k]? = some (.int .i64 (l[k] : Int)) := by simp [I64s, hN, hk]
    exact ⟨g, o, g', o', l[k], rfl, rfl, q1 k _ hu, q2 k _ hu⟩
  have HIN := hid hin
  clear hin h1 h2 hN
  go_enter Try.func42, Try.ntmps42
  go_wp2_with fail
  go_loopw [5] (fun i wr => ∃ k : Nat, k ≤ N ∧ i = .int .i64 k ∧ Below w.heap.size w wr) (fun i _ => N - (intOf i).toNat)
  case atStart => exact ⟨0, by omega, rfl, Below.refl _ _⟩
  case round =>
    obtain ⟨k, hk, rfl, hb⟩ := hrel
    by_cases hlt : k < N
    · obtain ⟨g, o, g', o', n, rfl, rfl, q1, q2⟩ := HIN.out k hlt
      have p1 := cell_below hb q1
      have p2 := cell_below hb q2
      have HB := hid hb
      clear q1 q2 hb
      go_wp2_with fail
      go_quiet (fail)
      go_wp2_with fail
      exact ⟨⟨k + 1, by omega, by go_num, ⟨HB.out.os, HB.out.tape, HB.out.output, HB.out.size, HB.out.block⟩⟩, by simp [intOf]; omega⟩
    · obtain rfl : k = N := by omega
      go_wp2
      go_ret
      exact ⟨rfl, hb⟩
end Go.Proofs.Ytddejjmebokgiaa
