/- record.stamps: what it hands out. -/
import Derived.Test.YtknhfaplddgnlaaChunk
namespace Go.Proofs.Ytknhfaplddgnlaa
open Go.RowKit Go.Shelf
attribute [local go_sem] Oper.semAt_some
set_option maxHeartbeats 3200000
set_option maxRecDepth 100000
set_option linter.unusedVariables false
set_option linter.unusedSimpArgs false

theorem stamps_any (w : World) (a : Option Addr) (N c : Nat) :
    Calls Try.prog 41 #[.slice a N c] w fun e w' => e = .returned (.func (.func 56) #[] #[.pointer (some ⟨w.heap.size, 0, none⟩)]) ∧ w' = w.alloc (.cells #[.slice a N c] 31) := by
  have hmf : ∀ (fn : Fn) (first cap : Array Value) (w : World), (Instr.makeFunc fn first cap).run Try.prog w = .ok (.func fn first cap) w := fun _ _ _ _ => rfl
  go_enter Try.func41, Try.ntmps41
  go_wp2
  go_ret
  exact ⟨rfl, rfl⟩
/-- The places where the stamps stand. -/
def stampV (b off : Nat) : List Value := (List.range 8).map fun k => .slice (some ⟨b, off + k * 512, none⟩) 8 512
theorem stampV_at (b off k : Nat) (hk : k < 8) : (stampV b off)[k]? = some (.slice (some ⟨b, off + k * 512, none⟩) 8 512) := by simp [stampV, hk]
theorem chunk8 (b off k : Nat) (v : Value) (h : (chunkV b off 512 4096)[k]? = some v) : k < 8 ∧ v = .slice (some ⟨b, off + k * 512, none⟩) 512 512 := by
  have hlt : k < 8 := by
    have := (List.getElem?_eq_some_iff.1 h).1
    rw [chunkV_len] at this
    omega
  rw [chunkV_at b off 512 4096 k (by omega) (by omega)] at h
  have e : min 512 (4096 - k * 512) = 512 := by omega
  rw [e] at h
  exact ⟨hlt, (Option.some.inj h).symm⟩
theorem stamps_iter (w : World) (Bb b off c : Nat) (hc : 4096 ≤ c ∧ c ≤ 9223372036854775807) (hs : w.heap[Bb]? = some (.cells #[.slice (some ⟨b, off, none⟩) 4096 c] 31 (0, 0))) :
    Iter Try.prog 56 #[.pointer (some ⟨Bb, 0, none⟩)] (fun b => b = Bb) (stampV b off) w := by
  intro l J Jx S W hW hl hS hJ hJx hY h0
  have hBb := heap_in hs
  have hs' := (hW.block _ hBb).trans hs
  have HY := hid hY
  have HJ := hid hJ; have HJX := hid hJx
  have HS := hid hS
  have hmix : Try.prog.follows .mixedOrders = true := by kernel_rfl
  obtain ⟨hc1, hc2⟩ := hc
  have cell1 : ∀ o, (W.alloc o).cell? ⟨Bb, 0, none⟩ = some (.slice (some ⟨b, off, none⟩) 4096 c) := fun o => cell_below ((Below.refl _ _).alloc (Nat.le_refl _) o) (cell_of_one hs')
  clear hY hJ hJx hs hS
  refine calls_marks Try.func56 rfl ?_
  simp only [Try.ntmps56, List.size_toArray, List.length_cons, List.length_nil, Nat.reduceAdd, Nat.reduceSub, Array.replicate_succ, Array.replicate_zero, List.push_toArray, List.append_toArray, List.nil_append, List.cons_append]
  go_wp2_with fail
  refine (Chunk_any _ _ _ _ 512 (by decide)).mono ?_
  rintro e w' ⟨rfl, hw'⟩
  have hbB : w'.heap[W.heap.size]? = some (.cells #[.func (.yield l) #[] #[]] 40 (0, 0)) := by
    rw [hw']
    exact (Below.heap_alloc _ _ _ (by simp; omega)).trans ((Below.heap_alloc _ _ _ (by simp)).trans (heap_alloc_new W _))
  have hb1 : w'.heap[W.heap.size + 1]? = some (.cells #[.slice (some ⟨b, off, none⟩) 4096 c] 31 (0, 0)) := by
    rw [hw']
    refine (Below.heap_alloc _ _ _ (by simp)).trans ?_
    have := heap_alloc_new (W.alloc (.cells #[.func (.yield l) #[] #[]] 40)) (.cells #[.slice (some ⟨b, off, none⟩) 4096 c] 31)
    rwa [World.size_alloc] at this
  have hb2 : w'.heap[W.heap.size + 1 + 1]? = some (.cells #[.int .i64 ((512 : Nat) : Int)] 3 (0, 0)) := by
    rw [hw']
    have := heap_alloc_new ((W.alloc (.cells #[.func (.yield l) #[] #[]] 40)).alloc (.cells #[.slice (some ⟨b, off, none⟩) 4096 c] 31)) (.cells #[.int .i64 ((512 : Nat) : Int)] 3)
    rwa [World.size_alloc, World.size_alloc] at this
  have hbl : Below W.heap.size W w' := by
    rw [hw']
    exact (((Below.refl _ _).alloc (Nat.le_refl _) _).alloc (by simp) _).alloc (by simp; omega) _
  have hsz : w'.heap.size = W.heap.size + 3 := by rw [hw']; simp
  clear hw' cell1
  simp only [World.size_alloc]
  go_wp2_with fail
  refine wp_each (t := 6) (gf := 60) rfl (enters_of Try.func60 (by kernel_rfl) rfl) _ _
    (Chunk_iter w' (W.heap.size + 1) (W.heap.size + 1 + 1) b off 4096 c 512 (by decide) ⟨by omega, by omega, by omega⟩ hb1 hb2) (by intro b hb; omega)
    (fun k S' A => ∃ S1, S' = (fun b => S1 b ∨ b = l) ∧ J k S1 A ∧ A.heap[W.heap.size]? = some (.cells #[.func (.yield l) #[] #[]] 40 (0, 0)) ∧ ¬ S1 W.heap.size ∧ W.heap.size + 3 ≤ A.heap.size)
    (fun c S' A => ∃ S1, S' = (fun b => S1 b ∨ b = l) ∧ Jx S1 A ∧ c = .ret) (fun b => S b ∨ b = l) ?_ ?_ ?_ ?_ ?act ?assign ?body ?done ?stop
  · intro b hb
    rcases hb with hb | rfl
    · have := HS.out b hb
      omega
    · omega
  · rintro k S' A A' ⟨S1, rfl, h1, h2, h3, h4⟩ kk
    refine ⟨S1, rfl, HJ.out k S1 A A' h1 (kk.mono fun b hb => ⟨by omega, fun h => hb.2 (.inl h)⟩), (kk.block _ (heap_in h2) (fun h => by omega)).trans h2, h3, Nat.le_trans h4 kk.size⟩
  · rintro c S' A A' ⟨S1, rfl, h1, h2⟩ kk
    exact ⟨S1, rfl, HJX.out S1 A A' h1 (kk.mono fun b hb => ⟨by omega, fun h => hb.2 (.inl h)⟩), h2⟩
  · refine ⟨S, rfl, HJ.out 0 S W w' h0 ((Kpt.of_below (S := fun _ => False) hbl).mono fun b hb => hb.elim), hbB, fun h => ?_, by omega⟩
    have := HS.out _ h
    omega
  case assign =>
    intro l' v W2 K hK
    gi_wp2
    exact hK
  case body =>
    rintro l' k v S' W2 hv ⟨S1, rfl, h1, h2, h3, h4⟩ hS2 hlt
    obtain ⟨hk, rfl⟩ := chunk8 b off k v hv
    obtain ⟨fn, tmps, assign, body, hy, hR⟩ := HY.out k _ S1 W2.drew (stampV_at b off k hk) (HJ.out k S1 _ _ h1 (kpt_drew _ _)) (fun b hb => hS2 b (.inl hb)) (by show W.heap.size ≤ W2.heap.size; omega)
    have cb : W2.drew.cell? ⟨W.heap.size, 0, none⟩ = some (.func (.yield l) #[] #[]) := cell_of_one h2
    clear HY
    gi_wp2_with fail
    have hR' : RoundIn (Fence.wide.inRound l') 0 Try.prog l fn tmps assign body W2.drew (fun e A' => ∃ (t : Bool) (S' : Nat → Prop), e = .returned (.bool t) ∧ Kpt (fun b => S1 b ∨ b = l) W2.drew A' ∧ Grw S1 W2.drew S' A' ∧ ((t = true ∧ J (k + 1) S' A') ∨ (t = false ∧ Jx S' A'))) := by
      refine hR.mono ?_
      rintro e W3 ⟨S3, kk, gg, ⟨rfl, hJ3⟩ | ⟨rfl, hJ3⟩⟩
      · exact ⟨true, S3, rfl, kk, gg, .inl ⟨rfl, hJ3⟩⟩
      · exact ⟨false, S3, rfl, kk, gg, .inr ⟨rfl, hJ3⟩⟩
    clear hR
    gi_region_with_o (refine ⟨rfl, RoundIn.mono hR' ?_⟩; rintro e W3 ⟨t, S3, rfl, kk, gg, hJ3⟩)
    all_goals
      have kk2 : Kpt (fun b => S1 b ∨ b = l) W2 W3 := (kpt_drew _ W2).trans kk
      have gg2 : Grw (fun b => S1 b ∨ b = l) W2 (fun b => S3 b ∨ b = l) W3 := by
        intro b hb
        rcases hb with hb | rfl
        · obtain ⟨g1, g2⟩ := gg b hb
          exact ⟨g1, g2.elim (fun h => .inl (.inl h)) .inr⟩
        · exact ⟨Nat.lt_of_lt_of_le (by omega) kk2.size, .inl (.inr rfl)⟩
      rcases hJ3 with ⟨rfl, hJ3⟩ | ⟨rfl, hJ3⟩
      · gi_wp2
        refine ⟨_, kk2, gg2, S3, rfl, hJ3, (kk2.block _ (by omega) (fun h => h.elim h3 (by omega))).trans h2, fun h => ?_, Nat.le_trans h4 kk2.size⟩
        obtain ⟨g1, g2⟩ := gg _ h
        rcases g2 with g2 | g2
        · exact h3 g2
        · change W2.heap.size ≤ W.heap.size at g2
          omega
      · gi_wp2
        exact ⟨_, kk2, gg2, S3, rfl, hJ3, rfl⟩
  case done =>
    rintro S' W2 ⟨S1, rfl, h1, h2, h3, h4⟩ hD hnD
    rw [hsz] at hD hnD
    have e8 : (chunkV b off 512 4096).length = (stampV b off).length := by rw [chunkV_len]; simp [stampV]
    rw [e8] at h1
    go_wp2
    refine leave1 (.inr rfl) rfl hD (results_none rfl _ _ _) ⟨⟨_, rfl⟩, S1, .inl (HJ.out _ _ _ _ h1 ((Kpt.putObj _ _ _).mono fun b hb => ?_))⟩
    subst hb
    exact ⟨by omega, fun h => hnD (.inl h)⟩
  case stop =>
    rintro c S' W2 ⟨S1, rfl, h1, rfl⟩ hD hnD
    rw [hsz] at hD hnD
    go_wp2
    refine leave1 (.inl rfl) rfl hD (results_none rfl _ _ _) ⟨⟨_, rfl⟩, S1, .inr (HJX.out _ _ _ h1 ((Kpt.putObj _ _ _).mono fun b hb => ?_))⟩
    subst hb
    exact ⟨by omega, fun h => hnD (.inl h)⟩
end Go.Proofs.Ytknhfaplddgnlaa
