/- What Put made is got; lists that share no memory. -/
import Derived.Test.YtknhfaplddgnlaaRecAA
import Derived.Test.YtknhfaplddgnlaaApart3
namespace Go.Proofs.Ytknhfaplddgnlaa
open Go.RowKit
set_option maxHeartbeats 1000000
set_option maxRecDepth 100000
set_option linter.unusedVariables false
set_option linter.unusedSimpArgs false

theorem datI_put (ims : List Img) (h : okP ims) (m : List UInt8) : datI (inB ims) (ims.map fun x => markB m x.2) ims.length ims.length = ims.map (·.2) := by
  have h1 := congrArg (List.map (·.2)) (got_put ims h m)
  unfold gotIms at h1
  rw [show (fun x : Int × List UInt8 => x.2) = Prod.snd from rfl, List.map_snd_zip (by rw [nsOf_length, datI_length]; exact Nat.le_refl _)] at h1
  exact h1
theorem GetPut (w : World) (L cL N : Nat) (E Q : Nat) (ims : List Img) (hN : N = ims.length) (hr : rightG (E : Int) (Q : Int) ims = true) (hc : N + 1 ≤ cL ∧ cL ≤ 9223372036854775807)
    (hl : RdLs w (some ⟨L, 0, none⟩) (putB E Q ims)) :
    Calls Try.prog 11 #[.slice (some ⟨L, 0, none⟩) (N + 1) cL] w fun e w' => Below w.heap.size w w' ∧ ∃ A c gs, e = .returned (.tuple #[.agg #[.int .i64 (E : Int), .int .i64 (Q : Int), .slice A N c], .int .i64 0]) ∧ OwIm w.heap.size w' A c (ims.map (·.1)) gs (ims.map (·.2)) := by
  obtain ⟨h1, h2, h3, h4, h5, h6, h7⟩ := rightG_out hr
  obtain ⟨e1, e2, e3, e4, e5⟩ := head_put hr
  have hle : ∀ l ∈ headB E Q ims :: (ims.map fun x => markB (stampB E Q) x.2), l.length ≤ 200000000000000 := by
    intro l hm
    rcases List.mem_cons.1 hm with rfl | hm
    · rw [headB_length E Q ims h6]; omega
    · obtain ⟨x, hx, rfl⟩ := List.mem_map.1 hm
      rw [markB_length, (h7.1 x hx).2.2]; omega
  refine (Get_any w (some ⟨L, 0, none⟩) (N + 1) cL (headB E Q ims) (ims.map fun x : Img => markB (stampB E Q) x.2) (by simp [hN]) hc (by omega) hle hl (fun b hb => rdls_blk hl hb)).mono ?_
  rintro e w' ⟨k1, _, k3⟩
  refine ⟨k1, ?_⟩
  obtain ⟨h, t, A, c, gs, he, rfl, ho⟩ := k3 (ok_put hr)
  obtain ⟨rfl, rfl⟩ := List.cons.inj he
  rw [e4, e5, in_ns ims h7, datI_put ims h7] at ho
  refine ⟨A, c, gs, ?_, ho⟩
  rw [e2, e3, e4, e5, hN]
theorem OwIm.at_ {base : Nat} {w : World} {A : Option Addr} {c : Nat} {ns : List Int} {gs : List (Nat × Nat)} {ls : List (List UInt8)} (h : OwIm base w A c ns gs ls) (i : Nat) (p : Nat × Nat) (hp : gs[i]? = some p) :
    ∃ b off, A = some ⟨b, off, none⟩ ∧ w.cell? ⟨b, off + i * 2 + 1, none⟩ = some (.slice (some ⟨p.1, 0, none⟩) 4096 p.2) := by
  have hi : i < gs.length := (List.getElem?_eq_some_iff.1 hp).1
  have hn := h.len
  obtain ⟨g, cc, hv, _, _⟩ := own_slice1 h.row (by omega)
  simp only [Value.slice.injEq, true_and] at hv
  obtain ⟨rfl, rfl⟩ := hv
  have e1 : ns[i]? = some (ns[i]'(by omega)) := List.getElem?_eq_getElem (by omega)
  have ev : (vals gs)[i]? = some (.slice (some ⟨p.1, 0, none⟩) 4096 p.2) := by simp [vals, hp]
  obtain ⟨_, c2⟩ := imC_at ns (vals gs) i _ _ e1 ev
  exact ⟨g, 0, rfl, by rw [Nat.zero_add, World.ownsRow.cellAt h.row _ (by omega), c2]⟩
/-- Three lists, one of each by turns. -/
def inter : List (Nat × Nat) → List (Nat × Nat) → List (Nat × Nat) → List (Nat × Nat)
  | a :: us, b :: vs, c :: ws => a :: b :: c :: inter us vs ws
  | _, _, _ => []
theorem inter_length : ∀ us vs ws : List (Nat × Nat), us.length = vs.length → us.length = ws.length → (inter us vs ws).length = 3 * us.length
  | [], [], [], _, _ => rfl
  | a :: us, b :: vs, c :: ws, h1, h2 => by
    simp only [inter, List.length_cons] at *
    rw [inter_length us vs ws (by omega) (by omega)]
    omega
theorem inter_perm : ∀ us vs ws : List (Nat × Nat), us.length = vs.length → us.length = ws.length → (inter us vs ws).Perm (us ++ (vs ++ ws))
  | [], [], [], _, _ => List.Perm.refl _
  | a :: us, b :: vs, c :: ws, h1, h2 => by
    have ih := inter_perm us vs ws (by simpa using h1) (by simpa using h2)
    simp only [inter, List.cons_append]
    refine List.Perm.cons a ?_
    refine (List.Perm.cons b (List.Perm.cons c ih)).trans ?_
    refine (List.Perm.cons b ?_).trans List.perm_middle.symm
    rw [← List.append_assoc, ← List.append_assoc]
    exact List.perm_middle.symm
theorem inter_take : ∀ (us vs ws : List (Nat × Nat)) (k : Nat) (a b c : Nat × Nat), us[k]? = some a → vs[k]? = some b → ws[k]? = some c →
    inter (us.take (k + 1)) (vs.take (k + 1)) (ws.take (k + 1)) = inter (us.take k) (vs.take k) (ws.take k) ++ [a, b, c]
  | x :: us, y :: vs, z :: ws, 0, a, b, c, h1, h2, h3 => by
    simp at h1 h2 h3
    subst h1 h2 h3
    simp [inter]
  | x :: us, y :: vs, z :: ws, k + 1, a, b, c, h1, h2, h3 => by
    have ih := inter_take us vs ws k a b c (by simpa using h1) (by simpa using h2) (by simpa using h3)
    simp only [List.take_succ_cons, inter, List.cons_append] at *
    rw [ih]
theorem all_nodup {g1 g2 g3 g4 g5 : List (Nat × Nat)} {b1 b2 b3 b4 b5 b6 : Nat} (d1 : (g1.map (·.1)).Nodup) (d2 : (g2.map (·.1)).Nodup) (d3 : (g3.map (·.1)).Nodup) (d4 : (g4.map (·.1)).Nodup) (d5 : (g5.map (·.1)).Nodup)
    (r1 : ∀ p ∈ g1, b1 ≤ p.1 ∧ p.1 < b2) (r2 : ∀ p ∈ g2, b2 ≤ p.1 ∧ p.1 < b3) (r3 : ∀ p ∈ g3, b3 ≤ p.1 ∧ p.1 < b4) (r4 : ∀ p ∈ g4, b4 ≤ p.1 ∧ p.1 < b5) (r5 : ∀ p ∈ g5, b5 ≤ p.1 ∧ p.1 < b6)
    (m : b2 ≤ b3 ∧ b3 ≤ b4 ∧ b4 ≤ b5) (l4 : g1.length = g4.length) (l5 : g1.length = g5.length) : (((g2 ++ g3) ++ inter g1 g4 g5).map (·.1)).Nodup := by
  have hp := ((List.Perm.append_left (g2 ++ g3) (inter_perm g1 g4 g5 l4 l5)).map (·.1)).nodup_iff
  rw [hp]
  simp only [List.map_append, List.nodup_append, List.mem_append, List.mem_map]
  refine ⟨⟨d2, d3, ?_⟩, ⟨d1, ⟨d4, d5, ?_⟩, ?_⟩, ?_⟩
  · rintro _ ⟨p, hp, rfl⟩ _ ⟨q, hq, rfl⟩
    have := r2 p hp; have := r3 q hq; omega
  · rintro _ ⟨p, hp, rfl⟩ _ ⟨q, hq, rfl⟩
    have := r4 p hp; have := r5 q hq; omega
  · rintro _ ⟨p, hp, rfl⟩ _ (⟨q, hq, rfl⟩ | ⟨q, hq, rfl⟩)
    · have := r1 p hp; have := r4 q hq; omega
    · have := r1 p hp; have := r5 q hq; omega
  · rintro _ (⟨p, hp, rfl⟩ | ⟨p, hp, rfl⟩) _ (⟨q, hq, rfl⟩ | ⟨q, hq, rfl⟩ | ⟨q, hq, rfl⟩)
    · have := r2 p hp; have := r1 q hq; omega
    · have := r2 p hp; have := r4 q hq; omega
    · have := r2 p hp; have := r5 q hq; omega
    · have := r3 p hp; have := r1 q hq; omega
    · have := r3 p hp; have := r4 q hq; omega
    · have := r3 p hp; have := r5 q hq; omega
theorem inter_mem {g1 g4 g5 : List (Nat × Nat)} (l4 : g1.length = g4.length) (l5 : g1.length = g5.length) {p : Nat × Nat} (h : p ∈ inter g1 g4 g5) : p ∈ g1 ∨ p ∈ g4 ∨ p ∈ g5 := by
  have := (inter_perm g1 g4 g5 l4 l5).mem_iff.1 h
  simpa using this
/-- ApartBytes, of blocks. -/
theorem ApartBlk (w : World) (base b2 L m cL : Nat) (gs : List (Nat × Nat)) (hm : m = gs.length) (h1 : gs.length ≤ 1000) (h0 : 0 < m) (hrow : w.ownsRow b2 31 1 (.slice (some ⟨L, 0, none⟩) m cL) m (vals gs))
    (hown : ∀ p ∈ gs, ∃ l, OwnB base w (some ⟨p.1, 0, none⟩) p.2 l ∧ l.length = 4096) (hd : (gs.map (·.1)).Nodup) (hb : base ≤ w.heap.size) :
    Calls Try.prog 28 #[.slice (some ⟨L, 0, none⟩) m cL] w fun e w' => e = .returned (.bool true) ∧ Kpt (fun b => ∃ p ∈ gs, p.1 = b) w w' := by
  have hex : ∀ k, ∃ l, k < m → OwnB base w (some ⟨(gs.getD k (0, 0)).1, 0, none⟩) (gs.getD k (0, 0)).2 l ∧ l.length = 4096 := by
    intro k
    by_cases hk : k < m
    · have hg : gs.getD k (0, 0) ∈ gs := by
        rw [List.getD_eq_getElem?_getD, List.getElem?_eq_getElem (by omega)]
        exact List.getElem_mem _
      obtain ⟨l, hl⟩ := hown _ hg
      exact ⟨l, fun _ => hl⟩
    · exact ⟨[], fun h => absurd h hk⟩
  obtain ⟨C, hC⟩ := Classical.axiomOfChoice hex
  have hat : ∀ k (hk : k < m), gs.getD k (0, 0) = gs[k]'(by omega) := fun k hk => by rw [List.getD_eq_getElem?_getD, List.getElem?_eq_getElem (by omega)]; rfl
  refine (ApartBytes_any w base L cL m (fun k => (gs.getD k (0, 0)).1) (fun k => (gs.getD k (0, 0)).2) (fun _ => 4096) C (by omega) ?_ (fun j hj => ⟨(hC j hj).1, (hC j hj).2⟩) ?_ ?_ (fun _ _ => by decide) hb).mono ?_
  · intro k hk
    have := World.ownsRow.cellAt hrow k (by omega)
    rw [this]
    simp only [vals, List.getElem?_map, List.getElem?_eq_getElem (show k < gs.length by omega), Option.map_some, hat k hk]
  · intro j k hj hk hne he
    rw [hat j hj, hat k hk] at he
    rw [List.nodup_iff_pairwise_ne, List.pairwise_iff_getElem] at hd
    rcases Nat.lt_or_gt_of_ne hne with h | h
    · exact hd j k (by simp; omega) (by simp; omega) h (by simpa using he)
    · exact hd k j (by simp; omega) (by simp; omega) h (by simpa using he.symm)
  · intro k hk he
    have ho := (hC k hk).1
    rw [he] at ho
    obtain ⟨cur, hc, _⟩ := ho.row
    have := row_no hrow (b := L) rfl hc
    exact absurd this (by decide)
  · rintro e w' ⟨h1, h2⟩
    refine ⟨h1, h2.mono ?_⟩
    rintro b ⟨k, hk, rfl⟩
    refine ⟨gs.getD k (0, 0), ?_, rfl⟩
    rw [hat k hk]
    exact List.getElem_mem _
end Go.Proofs.Ytknhfaplddgnlaa
