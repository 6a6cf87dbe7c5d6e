/- record: spread, gathered (printed by gen06a.py). -/
import Derived.Test.YtknhfaplddgnlaaRecC
import Derived.Deep.RegionHeld3
namespace Go.Proofs.Ytknhfaplddgnlaa
open Go.RowKit Go.Shelf
attribute [local go_sem] Oper.semAt_some
set_option maxHeartbeats 1000000
set_option maxRecDepth 100000
set_option linter.unusedVariables false
set_option linter.unusedSimpArgs false

theorem run_app_none (W : World) (ty : TypeId) (ad : Addr) (n c : Nat) (h : n ≤ c) : (Builtin.append_ #[31, 3] ty #[.slice (some ad) n c, .int .i64 0]).run Try.prog W = .ok (.slice (some ad) n c) W := by
  obtain ⟨i0, hi, hz0, hz1, hz2⟩ := info_parts info_u8
  have hw0 : IntKind.i64.wrap 0 = 0 := by rw [IntKind.wrap_i64]; rfl
  simp [Builtin.append_, run_underlying Try.underlying31, run_underlying Try.underlying3, sizeOf, typeInfo, hi, asInt, asIntOf, hw0, h, storeCells]
theorem app_none {ops : Array Oper} {rest : List Oper} {o : Oper} {a : Act} {Q : Exit → Act → World → Prop} {W : World} (hgd : o.guard = none) (s x : Operand)
    (ho : o.op = .call { callee := .builtin .append, args := #[s, x], argTypes := #[31, 3] }) (ad : Addr) (n c : Nat) (hs : a.eval s = .slice (some ad) n c) (y : Int) (hy : y = 0) (hx : a.eval x = .int .i64 y) (hle : n ≤ c)
    (h : wpList Try.prog ops Q rest (a.put o.dst (.slice (some ad) n c)) W) : wpList Try.prog ops Q (o :: rest) a W := by
  subst hy
  have hr := run_app_none W o.type ad n c hle
  refine wpList_plain hgd fun K hK => ?_
  unfold Oper.wp execOp
  simp only [ho, resolve, invoke, builtin, Sem.run_bind, Sem.run_pure, Result.andThen_ok, List.map_toArray, List.map_cons, List.map_nil, hs, hx, hr]
  exact hK _ _ h
theorem step_app2 {ops : Array Oper} {o : Oper} {a : Act} {W : World} {K : Act → World → Prop} {Q : Exit → Act → World → Prop} {E : Prop} (hgd : o.guard = none) (s x : Operand)
    (ho : o.op = .call { callee := .builtin .append, args := #[s, x], argTypes := #[31, 31] })
    (base : Nat) (A0 : Option Addr) (c0 n0 : Nat) (l : List UInt8) (hn0 : n0 = l.length) (hs : a.eval s = .slice A0 n0 c0) (HO : OwnB base W A0 c0 l)
    (A : Option Addr) (m c : Nat) (r : List UInt8) (hx : a.eval x = .slice A m c) (hl : m = r.length) (HR : RdB W A r)
    (n1 : Nat) (hn1 : n1 = l.length + r.length) (hbytes : l.length + r.length ≤ 200000000000000) (hbase : base ≤ W.heap.size)
    (h : ∀ A1 c1 w1, OwnB base w1 A1 c1 (l ++ r) → ((A1.map (·.block) = A0.map (·.block) ∧ W.grownBy w1 (A0.map (·.block))) ∨ (A1.map (·.block) = some W.heap.size ∧ Below W.heap.size W w1)) → K (a.put o.dst (.slice A1 n1 c1)) w1) :
    if Region.wanted o (yielded ops a.tmps) = true then Oper.wp Try.prog o a W K Q else E := by
  subst hl hn0 hn1
  have hw : Region.wanted o (yielded ops a.tmps) = true := by simp [Region.wanted, hgd]
  rw [if_pos hw]
  obtain ⟨i0, hi, hz0, hz1, hz2⟩ := info_parts info_u8
  have HO' : W.ownsRow base 5 i0.size (.slice A0 l.length c0) l.length (B8s l) := by rw [hz1]; exact HO
  obtain ⟨v1, w1, hr, h1, h2⟩ := run_app2 (P := Try.prog) (W := W) 31 o.type 5 i0 (.int .u8 0) Try.underlying31 hi hz0 (by rw [hz1]; rfl) (by rw [hz1]; decide) base _ l.length (B8s l) HO' A r.length c (B8s r) (by simp [B8s, hz1]) HR (B8s_one r) (by rw [hz2]; decide) (by rw [hz2]; omega) hbase
  obtain ⟨A1, c1, rfl, _⟩ := own_slice h1
  unfold Oper.wp execOp
  simp only [ho, resolve, invoke, builtin, Sem.run_bind, Sem.run_pure, Result.andThen_ok, List.map_toArray, List.map_cons, List.map_nil, hs, hx, hr]
  refine h A1 c1 w1 ?_ ?_
  · unfold OwnB
    rw [List.length_append, B8s_append]
    rw [hz1] at h1
    exact h1
  · cases A1 <;> cases A0 <;> simp [Value.ownBlock] at h2 ⊢ <;> exact h2
theorem chunkN (b off n N k : Nat) (v : Value) (hn : 1 ≤ n) (hN : N = n * 8) (h : (chunkV b off n N)[k]? = some v) : k < 8 ∧ v = .slice (some ⟨b, off + k * n, none⟩) n n := by
  subst hN
  have hlt : k < 8 := by
    have h1 := (List.getElem?_eq_some_iff.1 h).1
    rw [chunkV_len] at h1
    have h2 : (n * 8 + n - 1) / n < 9 := by
      rw [Nat.div_lt_iff_lt_mul (by omega)]
      omega
    omega
  have hle : k * n + n ≤ n * 8 := by
    have := Nat.mul_le_mul_right n (show k + 1 ≤ 8 by omega)
    rw [Nat.add_mul] at this
    omega
  rw [chunkV_at b off n (n * 8) k hn (by omega)] at h
  have e : min n (n * 8 - k * n) = n := by omega
  rw [e] at h
  exact ⟨hlt, (Option.some.inj h).symm⟩
theorem chunk_eight (b off n N : Nat) (hn : 1 ≤ n) (hN : N = n * 8) : (chunkV b off n N).length = 8 := by
  subst hN
  rw [chunkV_len]
  refine Nat.div_eq_of_lt_le ?_ ?_ <;> omega
def GaInv (O : Nat) (w2 : World) (l : List UInt8) (k : Nat) (S : Nat → Prop) (A : World) : Prop :=
  ∃ oa oc, S = (fun b => b = O ∨ blkOf oa b) ∧ Kpt (fun b => b = O) w2 A ∧ OwnB w2.heap.size A oa oc (gathTo l k) ∧ A.heap[O]? = some (.cells #[.slice oa (504 * k) oc] 31 (0, 0))
theorem gathered_any (w : World) (b off c : Nat) (l : List UInt8) (hl : l.length = 4096) (hr : RdB w (some ⟨b, off, none⟩) l) (hc : 4096 ≤ c ∧ c ≤ 9223372036854775807) :
    Calls Try.prog 54 #[.slice (some ⟨b, off, none⟩) 4096 c] w fun e w' => ∃ g c', e = .returned (.slice (some ⟨g, 0, none⟩) 4032 c') ∧ OwnB w.heap.size w' (some ⟨g, 0, none⟩) c' (gathB l) ∧ Below w.heap.size w w' := by
  obtain ⟨hc1, hc2⟩ := hc
  have hbl := rd_block hr (by omega)
  have hGL := hid (gathTo_length l hl)
  refine calls_marks Try.func54 rfl ?_
  simp only [Try.ntmps54, List.size_toArray, List.length_cons, List.length_nil, Nat.reduceAdd, Nat.reduceSub, Array.replicate_succ, Array.replicate_zero, List.push_toArray, List.append_toArray, List.nil_append, List.cons_append]
  go_wp2_with fail
  refine (Chunk_any _ _ _ _ 512 (by decide)).mono ?_
  rintro e w2 ⟨rfl, hw2⟩
  simp only [World.size_alloc] at *
  have hbw2 : Below w.heap.size w w2 := by
    rw [hw2]
    exact (((Below.refl _ _).alloc (Nat.le_refl _) _).alloc (by simp) _).alloc (by simp; omega) _
  have hz2 : w2.heap.size = w.heap.size + 3 := by rw [hw2]; simp
  have hd2 : w2.heap[w.heap.size]? = some (.cells #[.slice none 0 0] 31 (0, 0)) := by
    rw [hw2]
    exact (Below.heap_alloc _ _ _ (by simp; omega)).trans ((Below.heap_alloc _ _ _ (by simp)).trans (heap_alloc_new w _))
  have hx1 : w2.heap[w.heap.size + 1]? = some (.cells #[.slice (some ⟨b, off, none⟩) 4096 c] 31 (0, 0)) := by
    rw [hw2]
    refine (Below.heap_alloc _ _ _ (by simp)).trans ?_
    have := heap_alloc_new (w.alloc (.cells #[.slice none 0 0] 31)) (.cells #[.slice (some ⟨b, off, none⟩) 4096 c] 31)
    rwa [World.size_alloc] at this
  have hx2 : w2.heap[w.heap.size + 1 + 1]? = some (.cells #[.int .i64 ((512 : Nat) : Int)] 3 (0, 0)) := by
    rw [hw2]
    have := heap_alloc_new ((w.alloc (.cells #[.slice none 0 0] 31)).alloc (.cells #[.slice (some ⟨b, off, none⟩) 4096 c] 31)) (.cells #[.int .i64 ((512 : Nat) : Int)] 3)
    rwa [World.size_alloc, World.size_alloc] at this
  have hrr := hr.below hbw2
  clear hw2 hr
  go_wp2_with fail
  refine wp_each (t := 7) (gf := 60) rfl (enters_of Try.func60 (by kernel_rfl) rfl) _ _
    (Chunk_iter w2 (w.heap.size + 1) (w.heap.size + 1 + 1) b off 4096 c 512 (by decide) ⟨by omega, by omega, by omega⟩ hx1 hx2) (by intro b hb; omega)
    (GaInv w.heap.size w2 l) (fun c S A => False) (fun b => b = w.heap.size) ?_ ?_ ?_ ?_ ?act ?assign ?body ?done ?stop
  · intro b hb
    omega
  · rintro k S A A' ⟨oa, oc, rfl, q1, q2, q3⟩ kk
    exact ⟨oa, oc, rfl, q1.bk (Nat.le_refl _) kk, q2.kptA kk (fun b hb h => h.2 (.inr hb)), (kk.block _ (heap_in q3) (fun h => h.2 (.inl rfl))).trans q3⟩
  · rintro k S A A' q _
    exact q
  · exact ⟨none, 0, by funext b; simp [blkOf], Kpt.refl _ _, OwnB.nil _ _, hd2⟩
  case assign =>
    intro l' v W2 K hK
    gi_wp2
    exact hK
  case body =>
    rintro l' k v S W2 hv ⟨oa, oc, rfl, q1, q2, q3⟩ hS2 hlt
    obtain ⟨hk, rfl⟩ := chunkN b off 512 4096 k v (by omega) rfl hv
    have hgl := hGL.out k (by omega)
    have hpl := part_length l (k * 512 + 8) 504 (by omega)
    have r1 := ((hrr.kpt q1 (by omega)).part (k * 512 + 8) 504).below (kpt_below0 W2)
    rw [← Nat.add_assoc] at r1
    have hsz1 : w2.heap.size ≤ W2.drew.heap.size := q1.size
    have hnO : ¬ blkOf oa w.heap.size := fun h => by have := (q2.blk h).1; omega
    have q3d : W2.drew.heap[w.heap.size]? = some (.cells #[.slice oa (504 * k) oc] 31 (0, 0)) := q3
    have cO := cell_of_one q3d
    refine wpIn_block ?_
    refine region_round_held (S := fun _ => True) (by kernel_rfl) rfl (by rintro ⟨a, w, h⟩; exact h) trivial (fun hHeld => ?_)
    refine wpAnyH_take (i := 1) (oi := ?o1) (v := ?v1) ?hi1 (by kernel_rfl) (by kernel_rfl) ?hr1 ?hQ1 ?hy1 hHeld ?r1
    case hi1 => (simp only [List.getElem?_toArray, List.getElem?_cons_zero, List.getElem?_cons_succ]; rfl)
    case hr1 => kernel_rfl
    case hQ1 => exact fun _ _ _ h => h
    case hy1 => (refine Or.inl ⟨by rfl, ?_⟩; intro w hSw; (try dsimp only at hSw); go_simp; try with_reducible rfl)
    try simp only [Act.put, List.setIfInBounds_toArray, List.set_cons_zero, List.set_cons_succ]
    refine wpAnyH_take (i := 2) (oi := ?o2) (v := ?v2) ?hi2 (by kernel_rfl) (by kernel_rfl) ?hr2 ?hQ2 ?hy2 hHeld ?r2
    case hi2 => (simp only [List.getElem?_toArray, List.getElem?_cons_zero, List.getElem?_cons_succ]; rfl)
    case hr2 => kernel_rfl
    case hQ2 => exact fun _ _ _ h => h
    case hy2 => (refine Or.inl ⟨by rfl, ?_⟩; intro w hSw; (try dsimp only at hSw); go_simp; try with_reducible rfl)
    try simp only [Act.put, List.setIfInBounds_toArray, List.set_cons_zero, List.set_cons_succ]
    refine wpAnyH_take (i := 3) (oi := ?o3) (v := ?v3) ?hi3 (by kernel_rfl) (by kernel_rfl) ?hr3 ?hQ3 ?hy3 hHeld ?r3
    case hi3 => (simp only [List.getElem?_toArray, List.getElem?_cons_zero, List.getElem?_cons_succ]; rfl)
    case hr3 => kernel_rfl
    case hQ3 => exact fun _ _ _ h => h
    case hy3 => (refine Or.inl ⟨by rfl, ?_⟩; intro w hSw; (try dsimp only at hSw); go_simp; try with_reducible rfl)
    try simp only [Act.put, List.setIfInBounds_toArray, List.set_cons_zero, List.set_cons_succ]
    refine wpAnyH_take (i := 4) (oi := ?o4) (v := ?v4) ?hi4 (by kernel_rfl) (by kernel_rfl) ?hr4 ?hQ4 ?hy4 hHeld ?r4
    case hi4 => (simp only [List.getElem?_toArray, List.getElem?_cons_zero, List.getElem?_cons_succ]; rfl)
    case hr4 => kernel_rfl
    case hQ4 => exact fun _ _ _ h => h
    case hy4 => (refine Or.inl ⟨by rfl, ?_⟩; intro w hSw; (try dsimp only at hSw); go_simp; try with_reducible rfl)
    try simp only [Act.put, List.setIfInBounds_toArray, List.set_cons_zero, List.set_cons_succ]
    refine wpAnyH_take (i := 5) (oi := ?o5) (v := ?v5) ?hi5 (by kernel_rfl) (by kernel_rfl) ?hr5 ?hQ5 ?hy5 hHeld ?r5
    case hi5 => (simp only [List.getElem?_toArray, List.getElem?_cons_zero, List.getElem?_cons_succ]; rfl)
    case hr5 => kernel_rfl
    case hQ5 => exact fun _ _ _ h => h
    case hy5 => (refine Or.inl ⟨by rfl, ?_⟩; intro w hSw; (try dsimp only at hSw); go_simp; try with_reducible rfl)
    try simp only [Act.put, List.setIfInBounds_toArray, List.set_cons_zero, List.set_cons_succ]
    refine wpAnyH_ready (rs := [0]) (by kernel_rfl) (by simp) (AllReadyH.cons (o := ?o0) ?hi0 (fun K hK => ?r0) AllReadyH.nil)
    case hi0 => (simp only [List.getElem?_toArray, List.getElem?_cons_zero, List.getElem?_cons_succ]; rfl)
    go_simp
    refine hK.out _ _ (by trivial) (fun hHeld => ?_)
    clear hK K
    try simp only [Act.put, List.setIfInBounds_toArray, List.set_cons_zero, List.set_cons_succ]
    refine wpAnyH_ready (rs := [6]) (by kernel_rfl) (by simp) (AllReadyH.cons (o := ?o6) ?hi6 (fun K hK => ?r6) AllReadyH.nil)
    case hi6 => (simp only [List.getElem?_toArray, List.getElem?_cons_zero, List.getElem?_cons_succ]; rfl)
    refine step_app2 rfl (.tmp 8) (.tmp 13) rfl w2.heap.size oa oc (504 * k) (gathTo l k) hgl.symm rfl (q2.kptA (kpt_drew (fun _ => False) W2) (fun _ _ h => h)) (some ⟨b, off + k * 512 + 8, none⟩) 504 504 ((l.drop (k * 512 + 8)).take 504) rfl hpl.symm r1 (504 * k + 504) (by rw [hgl, hpl]) (by rw [hgl, hpl]; omega) hsz1 ?_
    intro A1 c1 w3 ho3 hap
    obtain ⟨K1, hA1⟩ := app_kpt hap
    have q33 := K1.row q3d hnO
    have c3 := cell_of_one q33
    have f3 := free_of_one q33
    rw [← gathTo_succ] at ho3
    refine hK.out _ _ (by trivial) (fun hHeld => ?_)
    clear hK K
    try simp only [Act.put, List.setIfInBounds_toArray, List.set_cons_zero, List.set_cons_succ]
    refine wpAnyH_ready (rs := [7]) (by kernel_rfl) (by simp) (AllReadyH.cons (o := ?o7) ?hi7 (fun K hK => ?r7) AllReadyH.nil)
    case hi7 => (simp only [List.getElem?_toArray, List.getElem?_cons_zero, List.getElem?_cons_succ]; rfl)
    go_simp
    refine hK.out _ _ (by trivial) (fun hHeld => ?_)
    clear hK K
    try simp only [Act.put, List.setIfInBounds_toArray, List.set_cons_zero, List.set_cons_succ]
    refine wpAnyH_done (by kernel_rfl) ?_ _
    all_goals
      have q44 := heap_setCell_same _ _ 0 _ _ (.slice A1 (504 * k + 504) c1) q33
      have K2 : Kpt (fun b => b = w.heap.size) w3 (w3.setCell ⟨w.heap.size, 0, none⟩ (.slice A1 (504 * k + 504) c1)) := (Kpt.refl (fun b => b = w.heap.size) w3).stc rfl _
      have hz4 : (w3.setCell ⟨w.heap.size, 0, none⟩ (.slice A1 (504 * k + 504) c1)).heap.size = w3.heap.size := by simp [World.setCell]
      have hsz3 := K1.size
      have hA2 : ∀ b, blkOf A1 b → b < w3.heap.size := fun b hb => (ho3.blk hb).2
      have K1' : Kpt (fun b => blkOf oa b) W2 w3 := (kpt_drew _ W2).trans K1
      have hdz : W2.drew.heap.size = W2.heap.size := rfl
      refine ⟨fun b => b = w.heap.size ∨ blkOf A1 b, (K1'.mono fun b hb => .inr hb).trans (K2.mono fun b hb => .inl hb), ?_, A1, c1, rfl, (q1.up K1' (fun b hb => .inr (q2.blk hb).1)).up K2 (fun b hb => .inl hb), ho3.kptA K2 (fun b hb h => ?_), ?_⟩
      · rintro b (rfl | hb)
        · have := heap_in q3
          exact ⟨by omega, .inl (.inl rfl)⟩
        · have := hA2 b hb
          exact ⟨by omega, (hA1 b hb).elim (fun h => .inl (.inr h)) .inr⟩
      · subst h
        rcases hA1 _ hb with h | h
        · exact hnO h
        · have := heap_in q3
          omega
      · exact q44
  case done =>
    rintro S W2 ⟨oa, oc, rfl, q1, q2, q3⟩ hD hnD
    have e8 := chunk_eight b off 512 4096 (by omega) rfl
    rw [e8] at q2 q3
    have cd : W2.cell? ⟨w.heap.size, 0, none⟩ = some (.slice oa (504 * 8) oc) := cell_of_one q3
    obtain ⟨g, rfl, hg1, hg2⟩ := own_adr4 q2 (by rw [hGL.out 8 (by omega)]; omega)
    have hgD : g ≠ w2.heap.size := fun e => hnD (.inr (by rw [← e]; rfl))
    have HQ2 := hid q2
    clear q2 q3 hnD
    go_wp2
    have KD := Kpt.putObj W2 w2.heap.size (.deferred none)
    refine leave1 (.inl rfl) rfl hD (results_tmp rfl _ _ _) ⟨g, oc, rfl, (HQ2.out.kpt KD hgD).mono (by omega), ?_⟩
    exact below_putObj (belowK hbw2 q1 (fun b hb => by omega) (by omega)) (by omega) _
  case stop =>
    rintro c S W2 h
    exact h.elim
def SpInv (O : Nat) (w2 : World) (m l : List UInt8) (k : Nat) (S : Nat → Prop) (A : World) : Prop :=
  ∃ oa oc, S = (fun b => b = O ∨ blkOf oa b) ∧ Kpt (fun b => b = O) w2 A ∧ OwnB w2.heap.size A oa oc (spreadTo m l k) ∧ A.heap[O]? = some (.cells #[.slice oa (512 * k) oc] 31 (0, 0))
theorem spread_any (w : World) (b off c : Nat) (l : List UInt8) (hl : l.length = 4032) (hr : RdB w (some ⟨b, off, none⟩) l) (hc : 4032 ≤ c ∧ c ≤ 9223372036854775807) (b2 off2 c2 : Nat) (m : List UInt8) (hm : m.length = 8) (hr2 : RdB w (some ⟨b2, off2, none⟩) m) :
    Calls Try.prog 35 #[.slice (some ⟨b, off, none⟩) 4032 c, .slice (some ⟨b2, off2, none⟩) 8 c2] w fun e w' => ∃ g c', e = .returned (.slice (some ⟨g, 0, none⟩) 4096 c') ∧ OwnB w.heap.size w' (some ⟨g, 0, none⟩) c' (spreadB m l) ∧ Below w.heap.size w w' := by
  obtain ⟨hc1, hc2⟩ := hc
  have hbl := rd_block hr (by omega)
  have hb2l := rd_block hr2 (by omega)
  have hGL := hid (spreadTo_length m l hm hl)
  refine calls_marks Try.func35 rfl ?_
  simp only [Try.ntmps35, List.size_toArray, List.length_cons, List.length_nil, Nat.reduceAdd, Nat.reduceSub, Array.replicate_succ, Array.replicate_zero, List.push_toArray, List.append_toArray, List.nil_append, List.cons_append]
  go_wp2_with (with_reducible refine app_none rfl (.tmp 7) (.tmp 10) rfl ⟨b, off, none⟩ 4032 c rfl 0 rfl rfl hc1 ?_)
  refine (Chunk_any _ _ _ _ 504 (by decide)).mono ?_
  rintro e w2 ⟨rfl, hw2⟩
  simp only [World.size_alloc] at *
  have hbw2 : Below w.heap.size w w2 := by
    rw [hw2]
    exact ((((Below.refl _ _).alloc (Nat.le_refl _) _).alloc (by simp) _).alloc (by simp; omega) _).alloc (by simp <;> omega) _
  have hz2 : w2.heap.size = w.heap.size + 4 := by rw [hw2]; simp
  have hm2 : w2.heap[w.heap.size]? = some (.cells #[.slice (some ⟨b2, off2, none⟩) 8 c2] 31 (0, 0)) := by
    rw [hw2]
    exact (Below.heap_alloc _ _ _ (by simp; omega)).trans ((Below.heap_alloc _ _ _ (by simp; omega)).trans ((Below.heap_alloc _ _ _ (by simp)).trans (heap_alloc_new w _)))
  have hd2 : w2.heap[w.heap.size + 1]? = some (.cells #[.slice none 0 0] 31 (0, 0)) := by
    rw [hw2]
    refine (Below.heap_alloc _ _ _ (by simp)).trans ((Below.heap_alloc _ _ _ (by simp)).trans ?_)
    have := heap_alloc_new (w.alloc (.cells #[.slice (some ⟨b2, off2, none⟩) 8 c2] 31)) (.cells #[.slice none 0 0] 31)
    rwa [World.size_alloc] at this
  have hx1 : w2.heap[w.heap.size + 1 + 1]? = some (.cells #[.slice (some ⟨b, off, none⟩) 4032 c] 31 (0, 0)) := by
    rw [hw2]
    refine (Below.heap_alloc _ _ _ (by simp)).trans ?_
    have := heap_alloc_new ((w.alloc (.cells #[.slice (some ⟨b2, off2, none⟩) 8 c2] 31)).alloc (.cells #[.slice none 0 0] 31)) (.cells #[.slice (some ⟨b, off, none⟩) 4032 c] 31)
    rwa [World.size_alloc, World.size_alloc] at this
  have hx2 : w2.heap[w.heap.size + 1 + 1 + 1]? = some (.cells #[.int .i64 ((504 : Nat) : Int)] 3 (0, 0)) := by
    rw [hw2]
    have := heap_alloc_new (((w.alloc (.cells #[.slice (some ⟨b2, off2, none⟩) 8 c2] 31)).alloc (.cells #[.slice none 0 0] 31)).alloc (.cells #[.slice (some ⟨b, off, none⟩) 4032 c] 31)) (.cells #[.int .i64 ((504 : Nat) : Int)] 3)
    rwa [World.size_alloc, World.size_alloc, World.size_alloc] at this
  have hrr := hr.below hbw2
  have hrm := hr2.below hbw2
  clear hw2 hr hr2
  go_wp2_with fail
  refine wp_each (t := 14) (gf := 60) rfl (enters_of Try.func60 (by kernel_rfl) rfl) _ _
    (Chunk_iter w2 (w.heap.size + 1 + 1) (w.heap.size + 1 + 1 + 1) b off 4032 c 504 (by decide) ⟨by omega, by omega, by omega⟩ hx1 hx2) (by intro b hb; omega)
    (SpInv (w.heap.size + 1) w2 m l) (fun c S A => False) (fun b => b = w.heap.size + 1) ?_ ?_ ?_ ?_ ?act ?assign ?body ?done ?stop
  · intro b hb
    omega
  · rintro k S A A' ⟨oa, oc, rfl, q1, q2, q3⟩ kk
    exact ⟨oa, oc, rfl, q1.bk (Nat.le_refl _) kk, q2.kptA kk (fun b hb h => h.2 (.inr hb)), (kk.block _ (heap_in q3) (fun h => h.2 (.inl rfl))).trans q3⟩
  · rintro k S A A' q _
    exact q
  · exact ⟨none, 0, by funext b; simp [blkOf], Kpt.refl _ _, OwnB.nil _ _, hd2⟩
  case assign =>
    intro l' v W2 K hK
    gi_wp2
    exact hK
  case body =>
    rintro l' k v S W2 hv ⟨oa, oc, rfl, q1, q2, q3⟩ hS2 hlt
    obtain ⟨hk, rfl⟩ := chunkN b off 504 4032 k v (by omega) rfl hv
    have hgl := hGL.out k (by omega)
    have hpl := part_length l (k * 504) 504 (by omega)
    have r1 := (hrr.kpt q1 (by omega)).part (k * 504) 504
    have rm := hrm.kpt q1 (by omega)
    have hsz1 : w2.heap.size ≤ W2.heap.size := q1.size
    have hnO : ¬ blkOf oa (w.heap.size + 1) := fun h => by have := (q2.blk h).1; omega
    have hnb : ¬ blkOf oa b := fun h => by have := (q2.blk h).1; omega
    have cO := cell_of_one q3
    have cM := cell_of_one (q1.row hm2 (by omega))
    have hl2 : (spreadTo m l k ++ m).length = 512 * k + 8 := by rw [List.length_append, hgl, hm]
    refine wpIn_block (region_round rfl (by rintro ⟨a, w, h⟩; exact h) ?_)
    go_wp2_with (first
      | (with_reducible refine app_bytes2 rfl (.tmp 15) (.tmp 16) rfl w2.heap.size oa oc (512 * k) (spreadTo m l k) hgl.symm rfl q2 (some ⟨b2, off2, none⟩) 8 c2 m rfl hm.symm rm (512 * k + 8) (by rw [hgl, hm]) (by rw [hgl, hm]; omega) hsz1 ?_; intro A1 c1 w3 ho3 hap; obtain ⟨K1, hA1⟩ := app_kpt hap; have q33 := K1.row q3 hnO; have c3 := cell_of_one q33; have r13 := r1.kpt K1 hnb)
      | (with_reducible refine app_bytes2 rfl (.tmp 17) (.tmp 18) rfl w2.heap.size A1 c1 (512 * k + 8) (spreadTo m l k ++ m) hl2.symm rfl ho3 (some ⟨b, off + k * 504, none⟩) 504 504 ((l.drop (k * 504)).take 504) rfl hpl.symm r13 (512 * k + 8 + 504) (by rw [hl2, hpl]) (by rw [hl2, hpl]; omega) (Nat.le_trans hsz1 K1.size) ?_; intro A2 c2' w4 ho4 hap2; obtain ⟨K2, hA2⟩ := app_kpt hap2; have q43 := K2.row q33 (fun h => by have := (ho3.blk h).1; omega); have c4 := cell_of_one q43; have f4 := free_of_one q43))
    rw [← spreadTo_succ] at ho4
    have q44 := heap_setCell_same _ _ 0 _ _ (.slice A2 (512 * k + 8 + 504) c2') q43
    have K3 : Kpt (fun b => b = w.heap.size + 1) w4 (w4.setCell ⟨w.heap.size + 1, 0, none⟩ (.slice A2 (512 * k + 8 + 504) c2')) := (Kpt.refl (fun b => b = w.heap.size + 1) w4).stc rfl _
    have hz4 : (w4.setCell ⟨w.heap.size + 1, 0, none⟩ (.slice A2 (512 * k + 8 + 504) c2')).heap.size = w4.heap.size := by simp [World.setCell]
    have hs3 := K1.size
    have hs4 := K2.size
    have hB2 : ∀ b, blkOf A2 b → w2.heap.size ≤ b ∧ b < w4.heap.size := fun b hb => ho4.blk hb
    have hA12 : ∀ b, blkOf A2 b → blkOf oa b ∨ W2.heap.size ≤ b := by
      intro b hb
      rcases hA2 b hb with h | h
      · exact hA1 b h
      · exact .inr (by omega)
    have hlO := heap_in q3
    have K12 : Kpt (fun b => blkOf oa b) W2 w4 := K1.up K2 (fun b hb => hA1 b hb)
    refine ⟨fun b => b = w.heap.size + 1 ∨ blkOf A2 b, (K12.mono fun b hb => .inr hb).trans (K3.mono fun b hb => .inl hb), ?_, A2, c2', rfl, (q1.up K12 (fun b hb => .inr (q2.blk hb).1)).up K3 (fun b hb => .inl hb), ho4.kptA K3 (fun b hb h => ?_), ?_⟩
    · rintro b (rfl | hb)
      · exact ⟨by omega, .inl (.inl rfl)⟩
      · have := hB2 b hb
        exact ⟨by omega, (hA12 b hb).elim (fun h => .inl (.inr h)) .inr⟩
    · subst h
      have := hB2 _ hb
      omega
    · exact q44
  case done =>
    rintro S W2 ⟨oa, oc, rfl, q1, q2, q3⟩ hD hnD
    have e8 := chunk_eight b off 504 4032 (by omega) rfl
    rw [e8] at q2 q3
    have cd : W2.cell? ⟨w.heap.size + 1, 0, none⟩ = some (.slice oa (512 * 8) oc) := cell_of_one q3
    obtain ⟨g, rfl, hg1, hg2⟩ := own_adr4 q2 (by rw [hGL.out 8 (by omega)]; omega)
    have hgD : g ≠ w2.heap.size := fun e => hnD (.inr (by rw [← e]; rfl))
    have HQ2 := hid q2
    clear q2 q3 hnD
    go_wp2
    have KD := Kpt.putObj W2 w2.heap.size (.deferred none)
    refine leave1 (.inl rfl) rfl hD (results_tmp rfl _ _ _) ⟨g, oc, rfl, (HQ2.out.kpt KD hgD).mono (by omega), ?_⟩
    exact below_putObj (belowK hbw2 q1 (fun b hb => by omega) (by omega)) (by omega) _
  case stop =>
    rintro c S W2 h
    exact h.elim
end Go.Proofs.Ytknhfaplddgnlaa
