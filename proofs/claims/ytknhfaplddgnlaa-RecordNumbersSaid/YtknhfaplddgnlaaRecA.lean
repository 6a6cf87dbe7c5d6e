/- record: stamp, Blocks, Stamped, shown, marked, spread, gathered. -/
import Derived.Test.YtknhfaplddgnlaaStamps
import Derived.Test.YtknhfaplddgnlaaRec
namespace Go.Proofs.Ytknhfaplddgnlaa
open Go.RowKit Go.Shelf
attribute [local go_sem] Oper.semAt_some
set_option maxHeartbeats 1000000
set_option maxRecDepth 100000
set_option linter.unusedVariables false
set_option linter.unusedSimpArgs false

theorem Equal_any (w : World) (a b : Option Addr) (c d n m : Nat) (l r : List UInt8) (hn : n = l.length) (hm : m = r.length) (hl : RdB w a l) (hr : RdB w b r) :
    Calls Try.prog 42 #[.slice a n c, .slice b m d] w fun e w' => e = .returned (.bool (l == r)) ∧ w = w' := by
  subst hn hm
  have h1 := run_strB c hl
  have h2 := run_strB d hr
  have h3 := strB_toList l
  have h4 := strB_toList r
  go_enter Try.func42, Try.ntmps42
  go_wp2
  go_ret
  exact ⟨rfl, rfl⟩
def stampB (ep seq : Nat) : List UInt8 := be (ep * 1099511627776 + seq) 8
theorem stampB_length (ep seq : Nat) : (stampB ep seq).length = 8 := be_length _ _
theorem stamp_any (w : World) (ep seq : Nat) (x y : Int) (hx : x = (ep : Int)) (hy : y = (seq : Int)) (h1 : ep ≤ 8388608) (h2 : seq ≤ 549755813888) :
    Calls Try.prog 30 #[.int .i64 x, .int .i64 y] w fun e w' => ∃ g c, e = .returned (.slice (some ⟨g, 0, none⟩) 8 c) ∧ OwnB w.heap.size w' (some ⟨g, 0, none⟩) c (stampB ep seq) ∧ Below w.heap.size w w' := by
  subst hx hy
  have C := fun (x : Int) hx => Add64_any w none 0 0 [] rfl (ep * 1099511627776 + seq) x hx (by simp) (RdB.nil _ _) (by omega)
  have hor : bits .or .u64 ((ep : Int) * 1099511627776) (seq : Int) = ((ep * 1099511627776 + seq : Nat) : Int) := by
    rw [bits_join .u64 64 (by decide) (fun n h0 h1 => IntWalk.u64_in n (by omega)) 40 ((ep : Int) * 1099511627776) (seq : Int) (by omega) (by omega) (by omega) (by omega) (by omega) (by omega)]
    omega
  go_enter Try.func30, Try.ntmps30
  go_wp2_with fail
  refine (C _ ?_).mono ?_
  · omega
  · rintro e w' ⟨A, c', rfl, ho, hb⟩
    rw [List.nil_append] at ho
    obtain ⟨g, rfl, _⟩ := own_adr4 ho (by rw [be_length]; decide)
    go_wp2
    go_ret
    exact ⟨g, c', rfl, ho, hb⟩
theorem Blocks_any (w : World) (n : Int) :
    Calls Try.prog 17 #[.int .i64 n] w fun e w' => e = .returned (.int .i64 (if 1 ≤ n ∧ n ≤ 32 then n + 1 else 0)) ∧ w = w' := by
  by_cases h1 : n < 1
  · go_enter Try.func17, Try.ntmps17
    go_wp2
    go_ret
    exact ⟨rfl, rfl⟩
  · by_cases h2 : 32 < n
    · go_enter Try.func17, Try.ntmps17
      go_wp2
      go_ret
      exact ⟨rfl, rfl⟩
    · go_enter Try.func17, Try.ntmps17
      go_wp2
      go_ret
      exact ⟨rfl, rfl⟩
theorem Kpt.bk {S P : Nat → Prop} {w A A' : World} (h : Kpt S w A) {B : Nat} (hB : w.heap.size ≤ B) (k : Kpt (fun b => B ≤ b ∧ P b) A A') : Kpt S w A' :=
  ⟨k.os.trans h.os, k.tape.trans h.tape, k.output.trans h.output, Nat.le_trans h.size k.size, fun j hj hs => (k.block j (Nat.lt_of_lt_of_le hj h.size) (fun e => by omega)).trans (h.block j hj hs)⟩
theorem Kpt.row {S : Nat → Prop} {w A : World} (h : Kpt S w A) {g : Nat} {o : Obj} (hg : w.heap[g]? = some o) (hs : ¬ S g) : A.heap[g]? = some o := (h.block g (heap_in hg) hs).trans hg
def stmpD (l : List UInt8) (ep seq : Int) : Bool := decide (1 ≤ ep ∧ ep ≤ 8388608 ∧ 1 ≤ seq ∧ seq ≤ 549755813888 ∧ stampedB (stampB ep.toNat seq.toNat) l)
theorem Stamped_any (w : World) (a : Option Addr) (c N : Nat) (l : List UInt8) (hN : N = l.length) (hc : l.length ≤ c ∧ c ≤ 9223372036854775807) (hr : RdB w a l) (ep seq : Int) :
    Calls Try.prog 16 #[.slice a N c, .int .i64 ep, .int .i64 seq] w fun e w' => e = .returned (.bool (stmpD l ep seq)) ∧ Below w.heap.size w w' := by
  subst hN
  have hrow0 := heap_alloc_new w (.cells #[.bool false] 4)
  have hb0 : Below w.heap.size w (w.alloc (.cells #[.bool false] 4)) := (Below.refl _ _).alloc (Nat.le_refl _) _
  have hcR := cell_of_one hrow0
  have hfR := free_of_one hrow0
  refine calls_marks Try.func16 rfl ?_
  simp only [Try.ntmps16, List.size_toArray, List.length_cons, List.length_nil, Nat.reduceAdd, Nat.reduceSub, Array.replicate_succ, Array.replicate_zero, List.push_toArray, List.append_toArray, List.nil_append, List.cons_append]
  have hbad : (¬ l.length = 4096 ∨ ep < 1 ∨ 8388608 < ep ∨ seq < 1 ∨ 549755813888 < seq) → stmpD l ep seq = false := by
    intro h
    exact decide_eq_false (by
      rintro ⟨h1, h2, h3, h4, h5⟩
      have := h5.1
      omega)
  by_cases h0 : l.length = 4096
  · have h0' : ((l.length : Int) != 4096) = false := by simpa using (show (l.length : Int) = 4096 by omega)
    by_cases h1 : ep < 1
    · have HB := hid (hbad (by omega))
      clear hbad
      go_wp2
      exact leave0 (v := .bool false) (.inl rfl) rfl (by simp [results, Try.f16, go_sem, hcR]) ⟨by rw [HB.out], hb0⟩
    by_cases h2 : 8388608 < ep
    · have HB := hid (hbad (by omega))
      clear hbad
      go_wp2
      exact leave0 (v := .bool false) (.inl rfl) rfl (by simp [results, Try.f16, go_sem, hcR]) ⟨by rw [HB.out], hb0⟩
    by_cases h3 : seq < 1
    · have HB := hid (hbad (by omega))
      clear hbad
      go_wp2
      exact leave0 (v := .bool false) (.inl rfl) rfl (by simp [results, Try.f16, go_sem, hcR]) ⟨by rw [HB.out], hb0⟩
    by_cases h4 : 549755813888 < seq
    · have HB := hid (hbad (by omega))
      clear hbad
      go_wp2
      exact leave0 (v := .bool false) (.inl rfl) rfl (by simp [results, Try.f16, go_sem, hcR]) ⟨by rw [HB.out], hb0⟩
    obtain ⟨x, rfl⟩ := Int.eq_ofNat_of_zero_le (show 0 ≤ ep by omega)
    obtain ⟨y, rfl⟩ := Int.eq_ofNat_of_zero_le (show 0 ≤ seq by omega)
    have hv : stmpD l (x : Int) (y : Int) = decide (stampedB (stampB x y) l) := by
      unfold stmpD
      simp only [Int.toNat_natCast]
      rw [decide_eq_decide]
      exact ⟨fun h => h.2.2.2.2, fun h => ⟨by omega, by omega, by omega, by omega, h⟩⟩
    rw [hv]
    clear hbad hv
    obtain ⟨b, off, rfl, -⟩ := hr.at_ (by rintro rfl; simp at h0)
    have CS := stamp_any (w.alloc (.cells #[.bool false] 4)) x y _ _ rfl rfl (by omega) (by omega)
    have hml := stampB_length x y
    generalize stampB x y = m at *
    go_wp2_with fail
    refine CS.mono ?_
    rintro e w1 ⟨g, cg, rfl, ho, hb1⟩
    clear CS
    have hbb1 := hb0.trans (hb1.mono hb0.size)
    have hrow1 := (hb1.block _ (heap_in hrow0)).trans hrow0
    go_wp2_with fail
    refine (stamps_any _ _ _ _).mono ?_
    rintro e w2 ⟨rfl, hw2⟩
    simp only [World.size_alloc] at *
    have hb2 : Below w1.heap.size w1 w2 := by
      rw [hw2]
      exact ((Below.refl _ _).alloc (Nat.le_refl _) _).alloc (by simp) _
    have hz2 : w2.heap.size = w1.heap.size + 2 := by rw [hw2]; simp
    have hm2 : w2.heap[w1.heap.size]? = some (.cells #[.slice (some ⟨g, 0, none⟩) 8 cg] 31 (0, 0)) := by
      rw [hw2]
      exact (Below.heap_alloc _ _ _ (by simp)).trans (heap_alloc_new w1 _)
    have hbx : w2.heap[w1.heap.size + 1]? = some (.cells #[.slice (some ⟨b, off, none⟩) 4096 c] 31 (0, 0)) := by
      rw [hw2]
      have := heap_alloc_new (w1.alloc (.cells #[.slice (some ⟨g, 0, none⟩) 8 cg] 31)) (.cells #[.slice (some ⟨b, off, none⟩) 4096 c] 31)
      rwa [World.size_alloc] at this
    have hbw2 := hbb1.trans (hb2.mono hbb1.size)
    have hR2 := (hb2.block _ (heap_in hrow1)).trans hrow1
    have hmr := ho.rd.below hb2
    have hbr := hr.below hbw2
    have hgR : g ≠ w.heap.size := by have := ho.lt.1; omega
    have hbR : b ≠ w.heap.size := by
      rintro rfl
      obtain ⟨b', o', e1, hcc⟩ := hr.at_ (by rintro rfl; simp at h0)
      simp only [Option.some.injEq, Addr.mk.injEq, and_true] at e1
      have := World.block_lt_of_cell? w _ (hcc 0 (by omega))
      simp at this
      omega
    have hgl := ho.lt.2
    have hRl := heap_in hrow1
    clear hw2 hrow0 hrow1 hr ho hcR hfR hb0 hb1 hb2 hbb1
    go_wp2_with fail
    refine wp_each (t := 33) (gf := 56) rfl (enters_of Try.func56 (by kernel_rfl) rfl) _ _
      (stamps_iter w2 (w1.heap.size + 1) b off c (by omega) hbx) (by intro b hb; omega)
      (fun k S A => S = (fun b => b = w.heap.size) ∧ Kpt (fun b => b = w.heap.size) w2 A ∧ A.heap[w.heap.size]? = some (.cells #[.bool false] 4 (0, 0)) ∧ ∀ j, j < k * 512 → j % 512 < 8 → bat l j = bat m (j % 512))
      (fun c S A => S = (fun b => b = w.heap.size) ∧ Kpt (fun b => b = w.heap.size) w2 A ∧ A.heap[w.heap.size]? = some (.cells #[.bool false] 4 (0, 0)) ∧ c = .ret ∧ ¬ stampedB m l) (fun b => b = w.heap.size) ?_ ?_ ?_ ?_ ?act ?assign ?body ?done ?stop
    · rintro b rfl
      omega
    · rintro k S A A' ⟨rfl, h1, h2, h3⟩ kk
      exact ⟨rfl, h1.bk (Nat.le_refl _) kk, (kk.block _ (heap_in h2) (fun h => h.2 rfl)).trans h2, h3⟩
    · rintro k S A A' ⟨rfl, h1, h2, h3⟩ kk
      exact ⟨rfl, h1.bk (Nat.le_refl _) kk, (kk.block _ (heap_in h2) (fun h => h.2 rfl)).trans h2, h3⟩
    · exact ⟨rfl, Kpt.refl _ _, hR2, fun j hj => by omega⟩
    case assign =>
      intro l' v W2 K hK
      gi_wp2
      exact hK
    case body =>
      rintro l' k v S W2 hv ⟨rfl, q1, q2, q3⟩ hS2 hlt
      obtain ⟨hk, rfl⟩ : k < 8 ∧ v = .slice (some ⟨b, off + k * 512, none⟩) 8 512 := by
        have hk : k < 8 := by have := (List.getElem?_eq_some_iff.1 hv).1; simpa [stampV] using this
        rw [stampV_at b off k hk] at hv
        exact ⟨hk, (Option.some.inj hv).symm⟩
      have cm := cell_of_one (q1.row hm2 (by omega))
      have r1 := (hbr.kpt q1 hbR).part (k * 512) 8
      have r2 := hmr.kpt q1 hgR
      have cR := cell_of_one q2
      have EQ := Equal_any W2 _ _ 512 cg _ _ _ _ (part_length l (k * 512) 8 (by omega)).symm hml.symm r1 r2
      have fR := free_of_one q2
      gi_wp2_with fail
      refine ⟨trivial, rfl, CallsIn.inRound l' (callsIn_wide.2 (EQ.mono ?_))⟩
      rintro e W3 ⟨rfl, rfl⟩
      clear EQ
      have hg : Grw (fun b => b = w.heap.size) W2 (fun b => b = w.heap.size) W2 := fun b hb => ⟨hS2 b hb, .inl hb⟩
      rcases ht : ((l.drop (k * 512)).take 8 == m)
      · have HT := hid ht
        clear ht
        gi_wp2
        refine ⟨_, (Kpt.refl (fun b => b = w.heap.size) W2).stc rfl _, fun b hb => ⟨by simpa [World.setCell] using hS2 b hb, .inl hb⟩, rfl, q1.stc rfl _, by rw [heap_setCell_same _ _ _ _ _ _ q2]; rfl, rfl, fun hst => ?_⟩
        have := HT.out
        rw [beq_eq_false_iff_ne] at this
        apply this
        refine bat_ext (by rw [part_length _ _ _ (by omega), hml]) fun j hj => ?_
        rw [part_length _ _ _ (by omega)] at hj
        rw [bat_part _ _ _ _ hj, hst.2 _ (by omega) (by omega)]
        congr 1
        omega
      · have HT := hid ht
        clear ht
        gi_wp2
        refine ⟨_, Kpt.refl _ _, hg, rfl, q1, q2, fun j hj h8 => ?_⟩
        have e : (l.drop (k * 512)).take 8 = m := by simpa using HT.out
        by_cases hjk : j < k * 512
        · exact q3 j hjk h8
        · rw [← e, bat_part _ _ _ _ h8]
          congr 1
          omega
    case done =>
      rintro S W2 ⟨rfl, q1, q2, q3⟩ hD hnD
      have hst : stampedB m l := ⟨h0, fun j hj => q3 j (by simp [stampV]; omega)⟩
      have fR := free_of_one q2
      have cR := cell_of_one q2
      have HQ := hid q2
      rw [hz2] at hD hnD
      have HS := hid hst
      clear hst q3 q2
      go_wp2
      have hD2 : (W2.setCell ⟨w.heap.size, 0, none⟩ (.bool true)).heap[w1.heap.size + 2]? = some (.deferred (some [])) := (heap_setCell_other _ _ _ _ (by simp; omega)).trans hD
      have hR3 : ((W2.setCell ⟨w.heap.size, 0, none⟩ (.bool true)).putObj (w1.heap.size + 2) (.deferred none)).heap[w.heap.size]? = some (.cells #[.bool true] 4 (0, 0)) := (World.putObj_heap_other (by omega)).trans (by rw [heap_setCell_same _ _ _ _ _ _ HQ.out]; rfl)
      have cR3 := cell_of_one hR3
      refine leave1 (v := .bool true) (.inl rfl) rfl hD2 (by simp [results, Try.f16, go_sem, cR3]) ⟨by rw [decide_eq_true HS.out], ?_⟩
      exact below_putObj (belowK hbw2 (q1.stc rfl _) (fun b hb => by omega) (by omega)) (by omega) _
    case stop =>
      rintro c S W2 ⟨rfl, q1, q2, rfl, q3⟩ hD hnD
      have HQ := hid q2
      rw [hz2] at hD hnD
      have HS := hid q3
      clear q3 q2
      go_wp2
      have hR3 : (W2.putObj (w1.heap.size + 2) (.deferred none)).heap[w.heap.size]? = some (.cells #[.bool false] 4 (0, 0)) := (World.putObj_heap_other (by omega)).trans HQ.out
      have cR3 := cell_of_one hR3
      refine leave1 (v := .bool false) (.inl rfl) rfl hD (by simp [results, Try.f16, go_sem, cR3]) ⟨by rw [decide_eq_false HS.out], ?_⟩
      exact below_putObj (belowK hbw2 q1 (fun b hb => by omega) (by omega)) (by omega) _
  · have h0' : ((l.length : Int) == 4096) = false := by simpa using (show ¬ ((l.length : Int) = 4096) by omega)
    have HB := hid (hbad (by omega))
    clear hbad
    go_wp2
    exact leave0 (v := .bool false) (.inl rfl) rfl (by simp [results, Try.f16, go_sem, hcR]) ⟨by rw [HB.out], hb0⟩
end Go.Proofs.Ytknhfaplddgnlaa
