/- record.head, where the stamps are right (printed by gen06b.py). -/
import Derived.Test.YtknhfaplddgnlaaRecI
namespace Go.Proofs.Ytknhfaplddgnlaa
open Go.RowKit
set_option maxHeartbeats 1500000
set_option maxRecDepth 100000
set_option linter.unusedVariables false
set_option linter.unusedSimpArgs false

def H1Inv (B G E Q : Nat) (w5 : World) (inn : List UInt8) (gi ci k : Nat) (vh vat : Value) (wr : World) : Prop :=
  ∃ ia ic ha hc gs p, vh = .slice ha k hc ∧ p = 6 + 66 * k ∧ vat = .int .i64 ((p : Nat) : Int) ∧ wr.heap[G]? = some (.cells #[.int .i64 (E : Int), .int .i64 (Q : Int), .slice ia k ic] 28 (0, 0)) ∧
    OwIm B wr ia ic (nsOf inn k) gs (List.replicate k (zeros 4096)) ∧ wr.ownsRow B 31 1 (.slice ha k hc) k (hvals gi ci k) ∧ Kpt (fun b => b = G) w5 wr
def H2Inv (B F E Q : Nat) (w7 : World) (inn : List UInt8) (k : Nat) (wr : World) : Prop :=
  ∃ fa fc fs, wr.heap[F]? = some (.cells #[.int .i64 (E : Int), .int .i64 (Q : Int), .slice fa k fc] 28 (0, 0)) ∧ OwIm B wr fa fc (nsOf inn k) fs (shI inn k) ∧ Kpt (fun b => b = F) w7 wr
theorem head_main (w : World) (a : Option Addr) (N c : Nat) (l : List UInt8) (hN : N = l.length) (hc : l.length ≤ c ∧ c ≤ 9223372036854775807) (hr : RdB w a l)
    (hS : stmpD l (epOf l : Int) (seqOf l : Int) = true) (hn : 1 ≤ nOf (gathB l) ∧ nOf (gathB l) ≤ 32) :
    Calls Try.prog 37 #[.slice a N c] w (HdPost w l) := by
  subst hN
  obtain ⟨hs1, hs2, hs3, hs4, hs5⟩ := of_decide_eq_true hS
  have hl : l.length = 4096 := hs5.1
  have hok : numOk l 0 8 = true := by simp [numOk, hl]
  have hlt : numV l 0 8 < 18446744073709551616 := numV_lt l 0 8
  have hm := and_mask (numV l 0 8) hlt
  have hE : ((numV l 0 8 : Nat) : Int) / 1099511627776 = (epOf l : Int) := by unfold epOf; omega
  have hQ : ((numV l 0 8 : Nat) : Int) % 1099511627776 = (seqOf l : Int) := by unfold seqOf; omega
  rw [hQ] at hm
  have U := fun W (h : RdB W a l) => U64_any W a c l.length l rfl 0 (by omega) h (by omega)
  have hb2 : Below w.heap.size w ((w.alloc (.cells #[.int .i64 0, .int .i64 0, .slice none 0 0] 28)).alloc (.cells #[.int .i64 (epOf l : Int), .int .i64 (seqOf l : Int), .slice none 0 0] 28)) := ((Below.refl _ _).alloc (Nat.le_refl _) _).alloc (by simp) _
  have hR2 : ((w.alloc (.cells #[.int .i64 0, .int .i64 0, .slice none 0 0] 28)).alloc (.cells #[.int .i64 (epOf l : Int), .int .i64 (seqOf l : Int), .slice none 0 0] 28)).heap[w.heap.size]? = some (.cells #[.int .i64 0, .int .i64 0, .slice none 0 0] 28 (0, 0)) :=
    (Below.heap_alloc _ _ _ (by simp)).trans (heap_alloc_new w _)
  have hG2 : ((w.alloc (.cells #[.int .i64 0, .int .i64 0, .slice none 0 0] 28)).alloc (.cells #[.int .i64 (epOf l : Int), .int .i64 (seqOf l : Int), .slice none 0 0] 28)).heap[w.heap.size + 1]? = some (.cells #[.int .i64 (epOf l : Int), .int .i64 (seqOf l : Int), .slice none 0 0] 28 (0, 0)) := by
    have := heap_alloc_new (w.alloc (.cells #[.int .i64 0, .int .i64 0, .slice none 0 0] 28)) (.cells #[.int .i64 (epOf l : Int), .int .i64 (seqOf l : Int), .slice none 0 0] 28)
    rwa [World.size_alloc] at this
  have HS := Stamped_any _ a c l.length l rfl hc (hr.below hb2) (epOf l : Int) (seqOf l : Int)
  rw [hS] at HS
  rw [hok] at U
  have HIS : isHead l = (rightG (epOf l : Int) (seqOf l : Int) (rdIms (gathB l) (nOf (gathB l))) && (headB (epOf l) (seqOf l) (rdIms (gathB l) (nOf (gathB l))) == l)) := by
    unfold isHead
    rw [hS, decide_eq_true hn]
    simp
  have HE := hid (show epOf l = epOf l from rfl)
  unfold HdPost
  rw [HIS]
  have hinn := gathB_length hl
  have hx0 : nOf (gathB l) < 65536 := numV_lt _ _ _
  have hbl : a = none → False := by
    rintro rfl
    obtain ⟨_, _, e, _⟩ := hr.at_ (by intro e; rw [e] at hl; exact absurd hl (by decide))
    cases e
  cases a with
  | none => exact (hbl rfl).elim
  | some ad =>
  obtain ⟨b, off, e0, -⟩ := hr.at_ (by intro e; rw [e] at hl; exact absurd hl (by decide))
  have e0' := Option.some.inj e0
  subst e0'
  have hbw0 := rd_block hr (by omega)
  have GA := fun W h => gathered_any W b off c l hl h (by omega)
  have BL := fun W => Blocks_any W ((nOf (gathB l) : Nat) : Int)
  have U16n := fun W gi ci h => U16_any W (some ⟨gi, 0, none⟩) ci 4032 (gathB l) hinn.symm 0 (by omega) h (by omega)
  have hok0 : numOk (gathB l) 0 2 = true := by simp [numOk, hinn]
  rw [hok0] at U16n
  have hnn : numV (gathB l) 0 2 = nOf (gathB l) := rfl
  rw [hnn] at U16n
  have HHL := hid (show l.length = 4096 from hl)
  rw [hl] at HS U
  simp only [hl]
  generalize gathB l = inn at *
  generalize nOf inn = n at *
  generalize numV l 0 8 = nn at *
  generalize epOf l = E at *
  generalize seqOf l = Q at *
  clear hok0 hnn HE HIS hbl hS hlt hok
  have hif : (if 1 ≤ ((n : Nat) : Int) ∧ ((n : Nat) : Int) ≤ 32 then ((n : Nat) : Int) + 1 else 0) = ((n : Nat) : Int) + 1 := if_pos (by omega)
  simp only [hif] at BL
  have hne : (((n : Nat) : Int) + 1 == 0) = false := by simpa using (show ¬ (((n : Nat) : Int) + 1 = 0) by omega)
  obtain ⟨G, hGd⟩ : ∃ G, G = w.heap.size + 1 := ⟨_, rfl⟩
  clear hl
  go_enter Try.func37, Try.ntmps37
  go_wp2_with fail
  refine (U _ (hr.below ((Below.refl _ _).alloc (Nat.le_refl _) _))).mono ?_
  rintro e w' ⟨rfl, rfl⟩
  go_wp2_with fail
  refine HS.mono ?_
  rintro e w3 ⟨rfl, b3⟩
  have hb3 := hb2.trans (b3.mono hb2.size)
  have hR3 := (b3.block _ (heap_in hR2)).trans hR2
  have hG3 := (b3.block _ (heap_in hG2)).trans hG2
  have hr3 := hr.below hb3
  clear HS hb2 hR2 hG2 U b3 hr
  go_wp2_with fail
  refine (GA _ hr3).mono ?_
  rintro e w5 ⟨gi, ci, rfl, hi, b5⟩
  have hb5 := hb3.trans (b5.mono hb3.size)
  have hR5 := (b5.block _ (heap_in hR3)).trans hR3
  have hG5 := (b5.block _ (heap_in hG3)).trans hG3
  have hr5 := hr3.below b5
  have hz5 := hb5.size
  have hGl := heap_in hG5
  have hil := hi.lt
  have hG3l := heap_in hG3
  clear GA hb3 hR3 hG3 b5 hr3
  rw [← hGd] at hG5 hGl hG3l
  go_wp2_with fail
  refine (U16n _ _ _ hi.rd).mono ?_
  rintro e w' ⟨rfl, rfl⟩
  clear U16n
  go_wp2_with fail
  refine (BL _).mono ?_
  rintro e w' ⟨rfl, rfl⟩
  clear BL
  have hcap := hi.cap
  rw [hinn] at hcap
  obtain ⟨hcap1, hcap2⟩ := hcap
  rw [← hGd]
  have HGD := hid hGd
  have hbG := hid hbw0
  clear hGd
  go_wp2_with fail
  go_loopw [11, 12, 58] (fun vh vat i wr => ∃ k : Nat, k ≤ n ∧ i = .int .i64 k ∧ H1Inv w5.heap.size G E Q w5 inn gi ci k vh vat wr) (fun _ _ i _ => n - (intOf i).toNat)
  case atStart =>
    exact ⟨0, Nat.zero_le _, rfl, none, 0, none, 0, [], 6, rfl, rfl, rfl, hG5, ⟨World.ownsRow_nil _ _ _ _, Blk.nil _ _, rfl⟩, World.ownsRow_nil _ _ _ _, Kpt.refl _ _⟩
  case round => as_aux_lemma =>
    obtain ⟨k, hk, rfl, ia, ic, ha, hc', gs, p, rfl, hp, rfl, q1, q2, q3, q4⟩ := hrel
    have hzr := q4.size
    by_cases hlt : k < n
    · have U16k := U16_any wr (some ⟨gi, 0, none⟩) ci 4032 inn hinn.symm ((p : Nat) : Int) (by omega) (hi.kpt q4 (by omega)).rd (by omega)
      have hokp : numOk inn ((p : Nat) : Int) 2 = true := by simp [numOk, hinn]; omega
      rw [hokp] at U16k
      clear hokp
      have hmk := fun W => run_mkB 4096 4096 4096 rfl rfl (by omega) W
      have hz4 := fun (W : World) (hb : W.heap.size ≤ W.heap.size) => OwnB.made W 4096 hb (by omega)
      obtain ⟨Z, hZ⟩ : ∃ Z : Array Value, Z = madeCells #[.int .u8 0] 4096 := ⟨_, rfl⟩
      simp only [← hZ] at hmk hz4
      clear hZ
      have hxlt : numV inn ((p : Nat) : Int) 2 < 65536 := numV_lt _ _ _
      have hnx : nsOf inn (k + 1) = nsOf inn k ++ [((numV inn ((p : Nat) : Int) 2 : Nat) : Int)] := by rw [hp]; exact nsOf_succ inn k
      obtain ⟨B, hB⟩ : ∃ B, B = w5.heap.size := ⟨_, rfl⟩
      rw [← hB] at q2 q3
      generalize numV inn ((p : Nat) : Int) 2 = x at *
      have hwx : IntKind.i64.wrap (x : Int) = (x : Int) := IntWalk.i64_in _ (by omega)
      -- what lies in the world behind the two new blocks
      have hWM : Below wr.heap.size wr (((wr.alloc (.cells Z 5)).alloc (.cells #[.int .i64 (x : Int), .slice (some ⟨wr.heap.size, 0, none⟩) 4096 4096] 38)).drew) := below_drw (((Below.refl _ _).alloc (Nat.le_refl _) _).alloc (by simp) _)
      have qM := q2.below hWM
      have hHM := own_below q3 hWM
      have hGM := (hWM.block _ (heap_in q1)).trans q1
      have hKM : Kpt (fun b => b = G) w5 (((wr.alloc (.cells Z 5)).alloc (.cells #[.int .i64 (x : Int), .slice (some ⟨wr.heap.size, 0, none⟩) 4096 4096] 38)).drew) := q4.trans (Kpt.of_below hWM)
      have hZM : OwnB wr.heap.size (((wr.alloc (.cells Z 5)).alloc (.cells #[.int .i64 (x : Int), .slice (some ⟨wr.heap.size, 0, none⟩) 4096 4096] 38)).drew) (some ⟨wr.heap.size, 0, none⟩) 4096 (zeros 4096) :=
        (hz4 wr (Nat.le_refl _)).below (below_drw ((Below.refl _ _).alloc (Nat.le_refl _) _))
      have hRM : RdV (((wr.alloc (.cells Z 5)).alloc (.cells #[.int .i64 (x : Int), .slice (some ⟨wr.heap.size, 0, none⟩) 4096 4096] 38)).drew) (some ⟨wr.heap.size + 1, 0, none⟩) [.int .i64 (x : Int), .slice (some ⟨wr.heap.size, 0, none⟩) 4096 4096] := by
        have := RdV.new (wr.alloc (.cells Z 5)) #[.int .i64 (x : Int), .slice (some ⟨wr.heap.size, 0, none⟩) 4096 4096] 38
        rw [World.size_alloc] at this
        exact this
      have hbM : B ≤ (((wr.alloc (.cells Z 5)).alloc (.cells #[.int .i64 (x : Int), .slice (some ⟨wr.heap.size, 0, none⟩) 4096 4096] 38)).drew).heap.size := by have := hWM.size; omega
      have hnG : ¬ blkOf ia G := fun h => by
        have := (own_base q2.row G (own_img q2.row h))
        omega
      have d0 : wr.drew.cell? ⟨G, 2, none⟩ = some (.slice ia k ic) := (cells3 q1).2.2
      have d1 : ((wr.alloc (.cells Z 5)).drew).cell? ⟨G, 2, none⟩ = some (.slice ia k ic) := cell_below (w' := (wr.alloc (.cells Z 5)).drew) (below_drw ((Below.refl _ _).alloc (Nat.le_refl _) _)) (cells3 q1).2.2
      have d2 := (cells3 hGM).2.2
      have e0 : wr.cell? ⟨G, 2, none⟩ = some (.slice ia k ic) := d0
      have e1 : (wr.alloc (.cells Z 5)).cell? ⟨G, 2, none⟩ = some (.slice ia k ic) := d1
      have e2 : ((wr.alloc (.cells Z 5)).alloc (.cells #[.int .i64 (x : Int), .slice (some ⟨wr.heap.size, 0, none⟩) 4096 4096] 38)).cell? ⟨G, 2, none⟩ = some (.slice ia k ic) := d2
      have HOM := hid qM.row; have HRM := hid hRM; have HBM := hid hbM; have HGM := hid hGM; have HNG := hid hnG
      rw [nsOf_length] at HOM
      have HQM := hid qM; have HHM := hid hHM; have HKM := hid hKM; have HZM := hid hZM
      have HGLT := hid (fun q (hq : q ∈ gs) => (q2.blk.lt hq).2)
      have HXN := hid hnx; have HP := hid hp
      clear hp q1 q2 q3 q4 hWM hGM qM hHM hKM hZM hRM hbM hnG hnx hz4
      go_wp2_with fail
      refine U16k.mono ?_
      rintro e w' ⟨rfl, rfl⟩
      clear U16k
      have FIN : ∀ A1 c1 (w8 : World), w8.ownsRow B 38 2 (.slice A1 (k + 1) c1) (k + 1) (imC (nsOf inn k) (vals gs) ++ [.int .i64 (x : Int), .slice (some ⟨wr.heap.size, 0, none⟩) 4096 4096]) →
          Kpt (fun b => blkOf ia b) (((wr.alloc (.cells Z 5)).alloc (.cells #[.int .i64 (x : Int), .slice (some ⟨wr.heap.size, 0, none⟩) 4096 4096] 38)).drew) w8 → w8.heap[G]? = some (.cells #[.int .i64 (E : Int), .int .i64 (Q : Int), .slice ia k ic] 28 (0, 0)) →
          ∃ ia' ic' gs', (w8.setCell ⟨G, 2, none⟩ (.slice A1 (k + 1) c1)).heap[G]? = some (.cells #[.int .i64 (E : Int), .int .i64 (Q : Int), .slice ia' (k + 1) ic'] 28 (0, 0)) ∧ OwIm B (w8.setCell ⟨G, 2, none⟩ (.slice A1 (k + 1) c1)) ia' ic' (nsOf inn (k + 1)) gs' (List.replicate (k + 1) (zeros 4096)) ∧
            (w8.setCell ⟨G, 2, none⟩ (.slice A1 (k + 1) c1)).ownsRow B 31 1 (.slice ha k hc') k (hvals gi ci k) ∧ Kpt (fun b => b = G) w5 (w8.setCell ⟨G, 2, none⟩ (.slice A1 (k + 1) c1)) := by
        intro A1 c1 w8 h8 K8 hG8
        have nT : ∀ {cs : Array Value} {t : TypeId} {b : Nat}, (((wr.alloc (.cells Z 5)).alloc (.cells #[.int .i64 (x : Int), .slice (some ⟨wr.heap.size, 0, none⟩) 4096 4096] 38)).drew).heap[b]? = some (.cells cs t (0, 0)) → t ≠ 38 → ¬ blkOf ia b := fun hc ht h => ht (row_no HOM.out (own_img HOM.out h) hc)
        have K9 : Kpt (fun b => b = G) w8 (w8.setCell ⟨G, 2, none⟩ (.slice A1 (k + 1) c1)) := (Kpt.refl (fun b => b = G) w8).stc rfl _
        have hlk : (nsOf inn k).length = (vals gs).length := by rw [vals_length]; exact HQM.out.len
        have hgk : gs.length = k := by have := HQM.out.len; rw [nsOf_length] at this; exact this.symm
        have hBz : B ≤ wr.heap.size := by rw [hB]; exact hzr
        have hGB : G < B := by rw [hB]; exact hGl
        have bZ : Blk B w8 (gs ++ [(wr.heap.size, 4096)]) (List.replicate k (zeros 4096) ++ [zeros 4096]) := by
          refine (HQM.out.blk.kpt K8 (fun p hp => ?_)).snoc ((HZM.out.kpt K8 ?_).mono hBz) (zeros_length _) ?_
          · obtain ⟨cs, hc⟩ := HQM.out.blk.u8 hp
            exact nT hc (by decide)
          · obtain ⟨cur, hc, _⟩ := HZM.out.row
            exact nT hc (by decide)
          · intro h
            obtain ⟨q, hq, e⟩ := List.mem_map.1 h
            have h1 := HGLT.out q hq
            omega
        have hBG : ∀ q ∈ gs ++ [(wr.heap.size, 4096)], ¬ q.1 = G := fun q hq e => by
          have := (bZ.lt hq).1
          omega
        refine ⟨A1, c1, gs ++ [(wr.heap.size, 4096)], ?_, ⟨?_, ?_, ?_⟩, ?_, ?_⟩
        · rw [heap_setCell_same _ _ 2 _ _ _ hG8]
          rfl
        · rw [nsOf_length]
          have := ownsRow_kpt h8 K9 (fun b hb e => by have := own_base h8 b hb; omega)
          rw [HXN.out, vals_snoc, imC_snoc _ _ _ _ hlk]
          exact this
        · rw [List.replicate_succ']
          exact bZ.kpt K9 hBG
        · rw [nsOf_length]
          simp [hgk]
        · refine ownsRow_kpt (ownsRow_kpt HHM.out K8 (fun b hb => ?_)) K9 (fun b hb e => by have := own_base HHM.out b hb; omega)
          obtain ⟨cs, hc⟩ := own_rowc HHM.out hb
          exact nT hc (by decide)
        · exact (HKM.out.up K8 (fun b hb => .inr (by have := own_base HOM.out b (own_img HOM.out hb); omega))).up K9 (fun b hb => .inl hb)
      have HFIN := hid FIN
      clear FIN
      go_upto_region 14 with fail
      go_cut [] (fun wx => ∃ ia' ic' gs', wx.heap[G]? = some (.cells #[.int .i64 (E : Int), .int .i64 (Q : Int), .slice ia' (k + 1) ic'] 28 (0, 0)) ∧ OwIm B wx ia' ic' (nsOf inn (k + 1)) gs' (List.replicate (k + 1) (zeros 4096)) ∧
        wx.ownsRow B 31 1 (.slice ha k hc') k (hvals gi ci k) ∧ Kpt (fun b => b = G) w5 wx)
      case first => as_aux_lemma =>
        refine wp_region_held_drew (S := fun _ => True) (by kernel_rfl) (by trivial) (fun hHeld => ?_)
        refine wpAnyH_take (i := 0) (oi := ?o0z1) (v := ?v0z1) ?hi0z1 (by kernel_rfl) (by kernel_rfl) ?hr0z1 ?hQ0z1 ?hy0z1 hHeld ?r0z1
        case hi0z1 => (simp only [List.getElem?_toArray, List.getElem?_cons_zero, List.getElem?_cons_succ]; rfl)
        case hr0z1 => kernel_rfl
        case hQ0z1 => exact fun _ _ _ h => h
        case hy0z1 => (refine Or.inl ⟨by rfl, ?_⟩; intro w hSw; (try dsimp only at hSw); go_simp; try with_reducible rfl)
        try simp only [Act.put, List.setIfInBounds_toArray, List.set_cons_zero, List.set_cons_succ]
        refine wpAnyH_take (i := 2) (oi := ?o2z1) (v := ?v2z1) ?hi2z1 (by kernel_rfl) (by kernel_rfl) ?hr2z1 ?hQ2z1 ?hy2z1 hHeld ?r2z1
        case hi2z1 => (simp only [List.getElem?_toArray, List.getElem?_cons_zero, List.getElem?_cons_succ]; rfl)
        case hr2z1 => kernel_rfl
        case hQ2z1 => exact fun _ _ _ h => h
        case hy2z1 => (refine Or.inl ⟨by rfl, ?_⟩; intro w hSw; (try dsimp only at hSw); go_simp; try with_reducible rfl)
        try simp only [Act.put, List.setIfInBounds_toArray, List.set_cons_zero, List.set_cons_succ]
        refine wpAnyH_take (i := 3) (oi := ?o3z1) (v := ?v3z1) ?hi3z1 (by kernel_rfl) (by kernel_rfl) ?hr3z1 ?hQ3z1 ?hy3z1 hHeld ?r3z1
        case hi3z1 => (simp only [List.getElem?_toArray, List.getElem?_cons_zero, List.getElem?_cons_succ]; rfl)
        case hr3z1 => kernel_rfl
        case hQ3z1 => exact fun _ _ _ h => h
        case hy3z1 => (refine Or.inl ⟨by rfl, ?_⟩; intro w hSw; (try dsimp only at hSw); go_simp; try with_reducible rfl)
        try simp only [Act.put, List.setIfInBounds_toArray, List.set_cons_zero, List.set_cons_succ]
        refine wpAnyH_ready (rs := [1, 4]) (by kernel_rfl) (by simp) (AllReadyH.cons (o := ?p1y10) ?gi1y10 (fun K hK => ?q1y10) (AllReadyH.cons (o := ?p4y10) ?gj4y10 (fun K hK => ?q4y10) AllReadyH.nil))
        case gi1y10 => (simp only [List.getElem?_toArray, List.getElem?_cons_zero, List.getElem?_cons_succ]; rfl)
        case gj4y10 => (simp only [List.getElem?_toArray, List.getElem?_cons_zero, List.getElem?_cons_succ]; rfl)
        case q1y10 =>
          go_simp
          refine hK.out _ _ (by trivial) (fun hHeld => ?_)
          clear hK K
          try simp only [Act.put, List.setIfInBounds_toArray, List.set_cons_zero, List.set_cons_succ]
          refine wpAnyH_ready (rs := [4]) (by kernel_rfl) (by simp) (AllReadyH.cons (o := ?o4z2) ?hi4z2 (fun K hK => ?r4z2) AllReadyH.nil)
          case hi4z2 => (simp only [List.getElem?_toArray, List.getElem?_cons_zero, List.getElem?_cons_succ]; rfl)
          go_simp
          refine hK.out _ _ (by trivial) (fun hHeld => ?_)
          clear hK K
          try simp only [Act.put, List.setIfInBounds_toArray, List.set_cons_zero, List.set_cons_succ]
          refine wpAnyH_take (i := 5) (oi := ?o5z2) (v := ?v5z2) ?hi5z2 (by kernel_rfl) (by kernel_rfl) ?hr5z2 ?hQ5z2 ?hy5z2 hHeld ?r5z2
          case hi5z2 => (simp only [List.getElem?_toArray, List.getElem?_cons_zero, List.getElem?_cons_succ]; rfl)
          case hr5z2 => kernel_rfl
          case hQ5z2 => exact fun _ _ _ h => h
          case hy5z2 => (refine Or.inl ⟨by rfl, ?_⟩; intro w hSw; (try dsimp only at hSw); go_simp; try with_reducible rfl)
          try simp only [Act.put, List.setIfInBounds_toArray, List.set_cons_zero, List.set_cons_succ]
          refine wpAnyH_ready (rs := [6]) (by kernel_rfl) (by simp) (AllReadyH.cons (o := ?o6z2) ?hi6z2 (fun K hK => ?r6z2) AllReadyH.nil)
          case hi6z2 => (simp only [List.getElem?_toArray, List.getElem?_cons_zero, List.getElem?_cons_succ]; rfl)
          go_simp
          refine hK.out _ _ (by trivial) (fun hHeld => ?_)
          clear hK K
          try simp only [Act.put, List.setIfInBounds_toArray, List.set_cons_zero, List.set_cons_succ]
          refine wpAnyH_ready (rs := [7]) (by kernel_rfl) (by simp) (AllReadyH.cons (o := ?o7z3) ?hi7z3 (fun K hK => ?r7z3) AllReadyH.nil)
          case hi7z3 => (simp only [List.getElem?_toArray, List.getElem?_cons_zero, List.getElem?_cons_succ]; rfl)
          refine step_own rfl (.tmp 67) (.tmp 72) 26 38 (.agg #[.int .i64 0, .slice none 0 0]) 2 32 rfl Try.underlying26 info_I rfl (by decide) (by decide) B ia ic k (imC (nsOf inn k) (vals gs)) rfl HOM.out (some ⟨wr.heap.size + 1, 0, none⟩) 1 1 [.int .i64 (x : Int), .slice (some ⟨wr.heap.size, 0, none⟩) 4096 4096] rfl rfl HRM.out (by simp [Value.oneCell']) (by omega) HBM.out ?_
          intro A1 c1 w8 h8 K8 hA8
          have hG8 := K8.row HGM.out HNG.out
          have cG8 := (cells3 hG8).2.2
          have fG8 := frozen_of_row _ G 2 _ _ hG8
          refine hK.out _ _ (by trivial) (fun hHeld => ?_)
          clear hK K
          try simp only [Act.put, List.setIfInBounds_toArray, List.set_cons_zero, List.set_cons_succ]
          refine wpAnyH_take (i := 8) (oi := ?o8z3) (v := ?v8z3) ?hi8z3 (by kernel_rfl) (by kernel_rfl) ?hr8z3 ?hQ8z3 ?hy8z3 hHeld ?r8z3
          case hi8z3 => (simp only [List.getElem?_toArray, List.getElem?_cons_zero, List.getElem?_cons_succ]; rfl)
          case hr8z3 => kernel_rfl
          case hQ8z3 => exact fun _ _ _ h => h
          case hy8z3 => (refine Or.inl ⟨by rfl, ?_⟩; intro w hSw; (try dsimp only at hSw); go_simp; try with_reducible rfl)
          try simp only [Act.put, List.setIfInBounds_toArray, List.set_cons_zero, List.set_cons_succ]
          refine wpAnyH_ready (rs := [9]) (by kernel_rfl) (by simp) (AllReadyH.cons (o := ?o9z3) ?hi9z3 (fun K hK => ?r9z3) AllReadyH.nil)
          case hi9z3 => (simp only [List.getElem?_toArray, List.getElem?_cons_zero, List.getElem?_cons_succ]; rfl)
          go_simp
          refine hK.out _ _ (by trivial) (fun hHeld => ?_)
          clear hK K
          try simp only [Act.put, List.setIfInBounds_toArray, List.set_cons_zero, List.set_cons_succ]
          refine wpAnyH_done (by kernel_rfl) ?_ _
          go_wp2_with fail
          go_meet
          exact HFIN.out A1 c1 w8 h8 K8 hG8
        case q4y10 =>
          go_simp
          refine hK.out _ _ (by trivial) (fun hHeld => ?_)
          clear hK K
          try simp only [Act.put, List.setIfInBounds_toArray, List.set_cons_zero, List.set_cons_succ]
          refine wpAnyH_take (i := 5) (oi := ?o5z4) (v := ?v5z4) ?hi5z4 (by kernel_rfl) (by kernel_rfl) ?hr5z4 ?hQ5z4 ?hy5z4 hHeld ?r5z4
          case hi5z4 => (simp only [List.getElem?_toArray, List.getElem?_cons_zero, List.getElem?_cons_succ]; rfl)
          case hr5z4 => kernel_rfl
          case hQ5z4 => exact fun _ _ _ h => h
          case hy5z4 => (refine Or.inl ⟨by rfl, ?_⟩; intro w hSw; (try dsimp only at hSw); go_simp; try with_reducible rfl)
          try simp only [Act.put, List.setIfInBounds_toArray, List.set_cons_zero, List.set_cons_succ]
          refine wpAnyH_ready (rs := [1, 6]) (by kernel_rfl) (by simp) (AllReadyH.cons (o := ?p1y9) ?gi1y9 (fun K hK => ?q1y9) (AllReadyH.cons (o := ?p6y9) ?gj6y9 (fun K hK => ?q6y9) AllReadyH.nil))
          case gi1y9 => (simp only [List.getElem?_toArray, List.getElem?_cons_zero, List.getElem?_cons_succ]; rfl)
          case gj6y9 => (simp only [List.getElem?_toArray, List.getElem?_cons_zero, List.getElem?_cons_succ]; rfl)
          case q1y9 =>
            go_simp
            refine hK.out _ _ (by trivial) (fun hHeld => ?_)
            clear hK K
            try simp only [Act.put, List.setIfInBounds_toArray, List.set_cons_zero, List.set_cons_succ]
            refine wpAnyH_ready (rs := [6]) (by kernel_rfl) (by simp) (AllReadyH.cons (o := ?o6z5) ?hi6z5 (fun K hK => ?r6z5) AllReadyH.nil)
            case hi6z5 => (simp only [List.getElem?_toArray, List.getElem?_cons_zero, List.getElem?_cons_succ]; rfl)
            go_simp
            refine hK.out _ _ (by trivial) (fun hHeld => ?_)
            clear hK K
            try simp only [Act.put, List.setIfInBounds_toArray, List.set_cons_zero, List.set_cons_succ]
            refine wpAnyH_ready (rs := [7]) (by kernel_rfl) (by simp) (AllReadyH.cons (o := ?o7z6) ?hi7z6 (fun K hK => ?r7z6) AllReadyH.nil)
            case hi7z6 => (simp only [List.getElem?_toArray, List.getElem?_cons_zero, List.getElem?_cons_succ]; rfl)
            refine step_own rfl (.tmp 67) (.tmp 72) 26 38 (.agg #[.int .i64 0, .slice none 0 0]) 2 32 rfl Try.underlying26 info_I rfl (by decide) (by decide) B ia ic k (imC (nsOf inn k) (vals gs)) rfl HOM.out (some ⟨wr.heap.size + 1, 0, none⟩) 1 1 [.int .i64 (x : Int), .slice (some ⟨wr.heap.size, 0, none⟩) 4096 4096] rfl rfl HRM.out (by simp [Value.oneCell']) (by omega) HBM.out ?_
            intro A1 c1 w8 h8 K8 hA8
            have hG8 := K8.row HGM.out HNG.out
            have cG8 := (cells3 hG8).2.2
            have fG8 := frozen_of_row _ G 2 _ _ hG8
            refine hK.out _ _ (by trivial) (fun hHeld => ?_)
            clear hK K
            try simp only [Act.put, List.setIfInBounds_toArray, List.set_cons_zero, List.set_cons_succ]
            refine wpAnyH_take (i := 8) (oi := ?o8z6) (v := ?v8z6) ?hi8z6 (by kernel_rfl) (by kernel_rfl) ?hr8z6 ?hQ8z6 ?hy8z6 hHeld ?r8z6
            case hi8z6 => (simp only [List.getElem?_toArray, List.getElem?_cons_zero, List.getElem?_cons_succ]; rfl)
            case hr8z6 => kernel_rfl
            case hQ8z6 => exact fun _ _ _ h => h
            case hy8z6 => (refine Or.inl ⟨by rfl, ?_⟩; intro w hSw; (try dsimp only at hSw); go_simp; try with_reducible rfl)
            try simp only [Act.put, List.setIfInBounds_toArray, List.set_cons_zero, List.set_cons_succ]
            refine wpAnyH_ready (rs := [9]) (by kernel_rfl) (by simp) (AllReadyH.cons (o := ?o9z6) ?hi9z6 (fun K hK => ?r9z6) AllReadyH.nil)
            case hi9z6 => (simp only [List.getElem?_toArray, List.getElem?_cons_zero, List.getElem?_cons_succ]; rfl)
            go_simp
            refine hK.out _ _ (by trivial) (fun hHeld => ?_)
            clear hK K
            try simp only [Act.put, List.setIfInBounds_toArray, List.set_cons_zero, List.set_cons_succ]
            refine wpAnyH_done (by kernel_rfl) ?_ _
            go_wp2_with fail
            go_meet
            exact HFIN.out A1 c1 w8 h8 K8 hG8
          case q6y9 =>
            go_simp
            refine hK.out _ _ (by trivial) (fun hHeld => ?_)
            clear hK K
            try simp only [Act.put, List.setIfInBounds_toArray, List.set_cons_zero, List.set_cons_succ]
            refine wpAnyH_ready (rs := [1]) (by kernel_rfl) (by simp) (AllReadyH.cons (o := ?o1z7) ?hi1z7 (fun K hK => ?r1z7) AllReadyH.nil)
            case hi1z7 => (simp only [List.getElem?_toArray, List.getElem?_cons_zero, List.getElem?_cons_succ]; rfl)
            go_simp
            refine hK.out _ _ (by trivial) (fun hHeld => ?_)
            clear hK K
            try simp only [Act.put, List.setIfInBounds_toArray, List.set_cons_zero, List.set_cons_succ]
            refine wpAnyH_ready (rs := [7]) (by kernel_rfl) (by simp) (AllReadyH.cons (o := ?o7z8) ?hi7z8 (fun K hK => ?r7z8) AllReadyH.nil)
            case hi7z8 => (simp only [List.getElem?_toArray, List.getElem?_cons_zero, List.getElem?_cons_succ]; rfl)
            refine step_own rfl (.tmp 67) (.tmp 72) 26 38 (.agg #[.int .i64 0, .slice none 0 0]) 2 32 rfl Try.underlying26 info_I rfl (by decide) (by decide) B ia ic k (imC (nsOf inn k) (vals gs)) rfl HOM.out (some ⟨wr.heap.size + 1, 0, none⟩) 1 1 [.int .i64 (x : Int), .slice (some ⟨wr.heap.size, 0, none⟩) 4096 4096] rfl rfl HRM.out (by simp [Value.oneCell']) (by omega) HBM.out ?_
            intro A1 c1 w8 h8 K8 hA8
            have hG8 := K8.row HGM.out HNG.out
            have cG8 := (cells3 hG8).2.2
            have fG8 := frozen_of_row _ G 2 _ _ hG8
            refine hK.out _ _ (by trivial) (fun hHeld => ?_)
            clear hK K
            try simp only [Act.put, List.setIfInBounds_toArray, List.set_cons_zero, List.set_cons_succ]
            refine wpAnyH_take (i := 8) (oi := ?o8z8) (v := ?v8z8) ?hi8z8 (by kernel_rfl) (by kernel_rfl) ?hr8z8 ?hQ8z8 ?hy8z8 hHeld ?r8z8
            case hi8z8 => (simp only [List.getElem?_toArray, List.getElem?_cons_zero, List.getElem?_cons_succ]; rfl)
            case hr8z8 => kernel_rfl
            case hQ8z8 => exact fun _ _ _ h => h
            case hy8z8 => (refine Or.inl ⟨by rfl, ?_⟩; intro w hSw; (try dsimp only at hSw); go_simp; try with_reducible rfl)
            try simp only [Act.put, List.setIfInBounds_toArray, List.set_cons_zero, List.set_cons_succ]
            refine wpAnyH_ready (rs := [9]) (by kernel_rfl) (by simp) (AllReadyH.cons (o := ?o9z8) ?hi9z8 (fun K hK => ?r9z8) AllReadyH.nil)
            case hi9z8 => (simp only [List.getElem?_toArray, List.getElem?_cons_zero, List.getElem?_cons_succ]; rfl)
            go_simp
            refine hK.out _ _ (by trivial) (fun hHeld => ?_)
            clear hK K
            try simp only [Act.put, List.setIfInBounds_toArray, List.set_cons_zero, List.set_cons_succ]
            refine wpAnyH_done (by kernel_rfl) ?_ _
            go_wp2_with fail
            go_meet
            exact HFIN.out A1 c1 w8 h8 K8 hG8
      case rest => as_aux_lemma =>
        clear hmk d0 d1 d2 e0 e1 e2 HOM HRM HBM HGM HNG HQM HHM HKM HZM HXN HGLT HFIN
        obtain ⟨ia', ic', gs', c1, c2, c3, c4⟩ := hcut
        have hzc := c4.size
        have hp3 : p ≤ 3000 := by have := HP.out; omega
        have hpc : ¬ ci = p + 2 := by omega
        have b6 : Below wc.heap.size wc (wc.alloc (.cells #[.slice (some ⟨gi, p + 2, none⟩) 64 (ci - (p + 2))] 31)) := (Below.refl _ _).alloc (Nat.le_refl _) _
        have c36 := own_below c3 b6
        have c26 := c2.below b6
        have c16 := (b6.block _ (heap_in c1)).trans c1
        have c46 := c4.trans (Kpt.of_below b6)
        have hz6 := b6.size
        have hBc : B ≤ (wc.alloc (.cells #[.slice (some ⟨gi, p + 2, none⟩) 64 (ci - (p + 2))] 31)).heap.size := by omega
        have rl : RdV (wc.alloc (.cells #[.slice (some ⟨gi, p + 2, none⟩) 64 (ci - (p + 2))] 31)) (some ⟨wc.heap.size, 0, none⟩) [.slice (some ⟨gi, p + 2, none⟩) 64 (ci - (p + 2))] := RdV.one
        have C16 := hid c16; have C26 := hid c26; have C46 := hid c46; have C36 := hid c36
        have hGB : G < B := by omega
        clear b6 c1 c2 c3 c4 c16 c26 c46
        go_wp2_with (with_reducible refine app_own rfl (.tmp 75) (.tmp 83) 22 31 (.slice none 0 0) 1 24 rfl Try.underlying22 info_L rfl (by decide) (by decide) B (.slice ha k hc') k (hvals gi ci k) rfl c36 (some ⟨wc.heap.size, 0, none⟩) 1 1 [.slice (some ⟨gi, p + 2, none⟩) 64 (ci - (p + 2))] rfl rfl rl (by simp [Value.oneCell']) (by omega) _ (Below.refl B _) hBc ?_; intro A1 c1 w6 h6a h6b h6c h6d)
        go_roundw
        case rel =>
          have K6 := Kpt.of_grown (S := fun b => (Value.slice ha k hc').ownBlock = some b) h6c (fun j e => e)
          have nT : ∀ {cs : Array Value} {t : TypeId} {b : Nat}, (wc.alloc (.cells #[.slice (some ⟨gi, p + 2, none⟩) 64 (ci - (p + 2))] 31)).heap[b]? = some (.cells cs t (0, 0)) → t ≠ 31 → ¬ (Value.slice ha k hc').ownBlock = some b := fun hc ht h => ht (row_no C36.out h hc)
          have hP := HP.out
          refine ⟨k + 1, by omega, by go_num, ia', ic', A1, c1, gs', p + 66, rfl, by omega, by go_num, K6.row C16.out (nT C16.out (by decide)), hB ▸ C26.out.kpt K6 (fun b hb => ?_) (fun q hq => ?_), ?_, ?_⟩
          · obtain ⟨cs, hc⟩ := own_rowc C26.out.row (own_img C26.out.row hb)
            exact nT hc (by decide)
          · obtain ⟨cs, hc⟩ := C26.out.blk.u8 hq
            exact nT hc (by decide)
          · rw [hvals_succ, ← hB]
            have e : 8 + 66 * k = p + 2 := by omega
            rw [e]
            exact h6a
          · exact C46.out.up K6 (fun b hb => .inr (by have := own_base C36.out b hb; omega))
        case measure => simp [intOf]; omega
    · obtain rfl : k = n := by omega
      clear hp
      obtain ⟨B, hB⟩ : ∃ B, B = w5.heap.size := ⟨_, rfl⟩
      rw [← hB] at q2 q3
      have hHn := own_slice1 q3 (by omega)
      obtain ⟨Hb, hcc, eH, hHb1, hHb2⟩ := hHn
      simp only [Value.slice.injEq, true_and] at eH
      obtain ⟨rfl, rfl⟩ := eH
      have hIn := own_slice1 q2.row (by rw [nsOf_length]; omega)
      obtain ⟨Ib, icc, eI, hIb1, hIb2⟩ := hIn
      simp only [Value.slice.injEq, true_and] at eI
      obtain ⟨rfl, rfl⟩ := eI
      have hGB : G < B := by rw [hB]; exact hGl
      have hRG : w.heap.size ≠ G := by have := HGD.out; omega
      have hiw := hi.kpt q4 (by omega)
      have hR6 := q4.row hR5 hRG
      have hr6 := hr5.kpt q4 (fun h => by have h2 := hbG.out; have h3 := HGD.out; omega)
      have hbw6 := belowK hb5 q4 (fun b hb => by have := HGD.out; omega) hz5
      obtain ⟨g0, g1, g2⟩ := cells3 q1
      -- the second group's world
      obtain ⟨w7, hw7⟩ : ∃ w7, w7 = wr.alloc (.cells #[.int .i64 (E : Int), .int .i64 (Q : Int), .slice none 0 0] 28) := ⟨_, rfl⟩
      have b7 : Below wr.heap.size wr w7 := by rw [hw7]; exact (Below.refl _ _).alloc (Nat.le_refl _) _
      have hF7 : w7.heap[wr.heap.size]? = some (.cells #[.int .i64 (E : Int), .int .i64 (Q : Int), .slice none 0 0] 28 (0, 0)) := by rw [hw7]; exact heap_alloc_new wr _
      have hz7 : w7.heap.size = wr.heap.size + 1 := by rw [hw7]; simp
      have q17 := (b7.block _ (heap_in q1)).trans q1
      have q27 := q2.below b7
      have q37 := own_below q3 b7
      have hi7 := hiw.below b7
      have hR7 := (b7.block _ (heap_in hR6)).trans hR6
      have hr7 := hr6.below b7
      have hbw7 := hbw6.trans (b7.mono hbw6.size)
      have j2 := (cells3 q17).2.2
      rw [hw7] at j2
      have Q17 := hid q17; have Q27 := hid q27; have Q37 := hid q37; have HI7 := hid hi7; have HR7 := hid hR7; have Hr7 := hid hr7; have HBW7 := hid hbw7; have HF7 := hid hF7; have HW7 := hid hw7
      clear q1 q2 q3 q4 b7 hF7 q17 q27 q37 hi7 hR7 hr7 hbw7 hiw hR6 hr6 hbw6 hw7 hR5 hr5 hb5 hi
      go_wp2_with fail
      rw [← HW7.out]
      clear j2 g0 g1 g2 HW7
      obtain ⟨B2, hB2⟩ : ∃ B2, B2 = w7.heap.size := ⟨_, rfl⟩
      generalize wr.heap.size = F at *
      go_loopw [93] (fun i wy => ∃ m : Nat, m ≤ k ∧ i = .int .i64 m ∧ H2Inv B2 F E Q w7 inn m wy) (fun i _ => k - (intOf i).toNat)
      case atStart => exact ⟨0, Nat.zero_le _, rfl, none, 0, [], HF7.out, ⟨World.ownsRow_nil _ _ _ _, Blk.nil _ _, rfl⟩, Kpt.refl _ _⟩
      case round => as_aux_lemma =>
        obtain ⟨m, hm', rfl, fa, fc, fs, p1, p2, p3⟩ := hrel
        have hzy := p3.size
        by_cases hlt2 : m < k
        · have hwF : ∀ {cs : Array Value} {t : TypeId} {b : Nat}, w7.heap[b]? = some (.cells cs t (0, 0)) → t ≠ 28 → ¬ b = F := fun hc ht e => by
            subst e
            have := HF7.out
            rw [hc] at this
            simp only [Option.some.injEq, Obj.cells.injEq] at this
            exact ht this.2.1
          have Q2 := Q27.out.kpt p3 (fun b hb => by
            obtain ⟨cs, hc⟩ := own_rowc Q27.out.row (own_img Q27.out.row hb)
            exact hwF hc (by decide)) (fun q hq => by
            obtain ⟨cs, hc⟩ := Q27.out.blk.u8 hq
            exact hwF hc (by decide))
          have Q3 := ownsRow_kpt Q37.out p3 (fun b hb => by
            obtain ⟨cs, hc⟩ := own_rowc Q37.out hb
            exact hwF hc (by decide))
          have HI := HI7.out.kpt p3 (by
            obtain ⟨cur, hc, _⟩ := HI7.out.row
            exact hwF hc (by decide))
          have hgl := Q2.len
          rw [nsOf_length] at hgl
          obtain ⟨⟨gm, cm⟩, hgm⟩ : ∃ q, gs[m]? = some q := ⟨gs[m]'(by omega), List.getElem?_eq_getElem _⟩
          obtain ⟨hoz, _⟩ := Q2.blk.own m _ (zeros 4096) hgm (by simp [hlt2])
          have hvm : (vals gs)[m]? = some (.slice (some ⟨gm, 0, none⟩) 4096 cm) := by simp [vals, hgm]
          have hnm := nsOf_at inn k m hlt2
          obtain ⟨i1, i2⟩ := imC_at _ _ m _ _ hnm hvm
          have i3 := World.ownsRow.cellAt Q2.row (m * 2) (by rw [nsOf_length]; omega)
          have i4 := World.ownsRow.cellAt Q2.row (m * 2 + 1) (by rw [nsOf_length]; omega)
          rw [i1] at i3
          rw [i2] at i4
          have i5 := World.ownsRow.cellAt Q3 m (by omega)
          rw [hvals_at _ _ _ _ hlt2] at i5
          have hnx : nsOf inn (m + 1) = nsOf inn m ++ [((numV inn ((6 + 66 * m : Nat) : Int) 2 : Nat) : Int)] := nsOf_succ inn m
          have hsx := shI_succ inn m
          generalize ((numV inn ((6 + 66 * m : Nat) : Int) 2 : Nat) : Int) = x at *
          have hdl : 8 + 66 * m + 64 ≤ 4032 := by omega
          have hrd := (HI.rd.part (8 + 66 * m) 64)
          rw [Nat.zero_add] at hrd
          have hhl : (hidI inn m).length = 64 := hidI_length inn m k hinn hlt2 hn.2
          have hrd' : RdB wr (some ⟨gi, 8 + 66 * m, none⟩) (hidI inn m) := hrd
          obtain ⟨d, hd⟩ : ∃ d, d = 8 + 66 * m := ⟨_, rfl⟩
          rw [← hd] at i5 hrd' hdl
          have HD := hid hd
          have bX : Below wr.heap.size wr (wr.alloc (.cells #[.int .i64 x, .slice (some ⟨gm, 0, none⟩) 4096 cm] 38)).drew := below_drw ((Below.refl _ _).alloc (Nat.le_refl _) _)
          have hxr : (wr.alloc (.cells #[.int .i64 x, .slice (some ⟨gm, 0, none⟩) 4096 cm] 38)).drew.heap[wr.heap.size]? = some (.cells #[.int .i64 x, .slice (some ⟨gm, 0, none⟩) 4096 cm] 38 (0, 0)) := heap_alloc_new wr _
          have hFx := (bX.block _ (heap_in p1)).trans p1
          have p2x := p2.below bX
          have Q3x := own_below Q3 bX
          have p3x := p3.trans (Kpt.of_below (S := fun b => b = F) bX)
          have SHN := shown_any (wr.alloc (.cells #[.int .i64 x, .slice (some ⟨gm, 0, none⟩) 4096 cm] 38)).drew gm 0 cm (zeros 4096) (zeros_length _) (hoz.below bX).rd gi d (ci - d) (hidI inn m) hhl (hrd'.below bX) (by omega)
          have hzx : (wr.alloc (.cells #[.int .i64 x, .slice (some ⟨gm, 0, none⟩) 4096 cm] 38)).drew.heap.size = wr.heap.size + 1 := by show (wr.alloc _).heap.size = _; simp
          rw [hzx] at SHN
          have hFl := heap_in p1
          have x0 : (wr.alloc (.cells #[.int .i64 x, .slice (some ⟨gm, 0, none⟩) 4096 cm] 38)).drew.cell? ⟨wr.heap.size, 0, none⟩ = some (.int .i64 x) := by rw [cell_of_row _ _ _ _ _ _ hxr]; rfl
          have x1 : (wr.alloc (.cells #[.int .i64 x, .slice (some ⟨gm, 0, none⟩) 4096 cm] 38)).drew.cell? ⟨wr.heap.size, 1, none⟩ = some (.slice (some ⟨gm, 0, none⟩) 4096 cm) := by rw [cell_of_row _ _ _ _ _ _ hxr]; rfl
          have x2 : (wr.alloc (.cells #[.int .i64 x, .slice (some ⟨gm, 0, none⟩) 4096 cm] 38)).drew.cell? ⟨Hb, m, none⟩ = some (.slice (some ⟨gi, d, none⟩) 64 (ci - d)) := cell_below bX i5
          have sX := And.intro x0 (And.intro x1 x2)
          have f0 := (cells3 hFx).2.2
          have f0' : (wr.alloc (.cells #[.int .i64 x, .slice (some ⟨gm, 0, none⟩) 4096 cm] 38)).cell? ⟨F, 2, none⟩ = some (.slice fa m fc) := f0
          have hnF : ∀ b, blkOf fa b → b ≠ F ∧ b ≠ wr.heap.size ∧ b ≠ Hb := fun b hb => by
            have h1 := own_base p2.row b (own_img p2.row hb)
            have h2 := own_lt p2.row b (own_img p2.row hb)
            omega
          -- behind the call
          have NX : ∀ (w9 : World), Below (wr.heap.size + 1) (wr.alloc (.cells #[.int .i64 x, .slice (some ⟨gm, 0, none⟩) 4096 cm] 38)).drew w9 →
              (w9.cell? ⟨wr.heap.size, 0, none⟩ = some (.int .i64 x) ∧ w9.cell? ⟨wr.heap.size, 1, none⟩ = some (.slice (some ⟨gm, 0, none⟩) 4096 cm) ∧ w9.cell? ⟨Hb, m, none⟩ = some (.slice (some ⟨gi, d, none⟩) 64 (ci - d))) ∧ w9.cell? ⟨F, 2, none⟩ = some (.slice fa m fc) ∧
              w9.heap[F]? = some (.cells #[.int .i64 (E : Int), .int .i64 (Q : Int), .slice fa m fc] 28 (0, 0)) ∧ w9.ownsRow B2 38 2 (.slice fa m fc) m (imC (nsOf inn m) (vals fs)) ∧ B2 ≤ w9.heap.size := by
            intro w9 b9
            have b9' : Below (wr.alloc (.cells #[.int .i64 x, .slice (some ⟨gm, 0, none⟩) 4096 cm] 38)).drew.heap.size (wr.alloc (.cells #[.int .i64 x, .slice (some ⟨gm, 0, none⟩) 4096 cm] 38)).drew w9 := by rw [hzx]; exact b9
            have hF9 := (b9'.block _ (heap_in hFx)).trans hFx
            have h3 := own_below p2x.row b9'
            rw [nsOf_length] at h3
            have hz9 := b9.size
            exact ⟨⟨cell_below b9' x0, cell_below b9' x1, cell_below b9' x2⟩, (cells3 hF9).2.2, hF9, h3, by omega⟩
          have FIN2 : ∀ (w9 : World) (g cg : Nat), OwnB (wr.heap.size + 1) w9 (some ⟨g, 0, none⟩) cg (shownB (hidI inn m) (zeros 4096)) → Below (wr.heap.size + 1) (wr.alloc (.cells #[.int .i64 x, .slice (some ⟨gm, 0, none⟩) 4096 cm] 38)).drew w9 →
              ∀ A1 c1 (w8 : World), w8.ownsRow B2 38 2 (.slice A1 (m + 1) c1) (m + 1) (imC (nsOf inn m) (vals fs) ++ [.int .i64 x, .slice (some ⟨g, 0, none⟩) 4096 cg]) → Kpt (fun b => blkOf fa b) (w9.alloc (.cells #[.int .i64 x, .slice (some ⟨g, 0, none⟩) 4096 cg] 38)) w8 →
              H2Inv B2 F E Q w7 inn (m + 1) (w8.setCell ⟨F, 2, none⟩ (.slice A1 (m + 1) c1)) := by
            intro w9 g cg hog b9 A1 c1 w8 h8 K8
            have b9' : Below (wr.alloc (.cells #[.int .i64 x, .slice (some ⟨gm, 0, none⟩) 4096 cm] 38)).drew.heap.size (wr.alloc (.cells #[.int .i64 x, .slice (some ⟨gm, 0, none⟩) 4096 cm] 38)).drew w9 := by rw [hzx]; exact b9
            have ba : Below w9.heap.size w9 (w9.alloc (.cells #[.int .i64 x, .slice (some ⟨g, 0, none⟩) 4096 cg] 38)) := (Below.refl _ _).alloc (Nat.le_refl _) _
            have p29 := (p2x.below b9').below ba
            have hoga := hog.below ba
            obtain ⟨_, _, hF9, _, _⟩ := NX w9 b9
            have hFa := (ba.block _ (heap_in hF9)).trans hF9
            have hF8 := K8.row hFa (fun h => (hnF F h).1 rfl)
            have nT : ∀ {cs : Array Value} {t : TypeId} {b : Nat}, (w9.alloc (.cells #[.int .i64 x, .slice (some ⟨g, 0, none⟩) 4096 cg] 38)).heap[b]? = some (.cells cs t (0, 0)) → t ≠ 38 → ¬ blkOf fa b := fun hc ht h => ht (row_no p29.row (own_img p29.row h) hc)
            have K9 : Kpt (fun b => b = F) w8 (w8.setCell ⟨F, 2, none⟩ (.slice A1 (m + 1) c1)) := (Kpt.refl (fun b => b = F) w8).stc rfl _
            have hlk : (nsOf inn m).length = (vals fs).length := by rw [vals_length]; exact p2.len
            have hfk : fs.length = m := by have := p2.len; rw [nsOf_length] at this; exact this.symm
            have hz9 := b9.size
            have hgl' := hog.lt
            have bZ : Blk B2 w8 (fs ++ [(g, cg)]) (shI inn m ++ [shownB (hidI inn m) (zeros 4096)]) := by
              refine (p29.blk.kpt K8 (fun q hq => ?_)).snoc ((hoga.kpt K8 ?_).mono (by omega)) (by rw [shownB_length, zeros_length]) ?_
              · obtain ⟨cs, hc⟩ := p29.blk.u8 hq
                exact nT hc (by decide)
              · obtain ⟨cur, hc, _⟩ := hoga.row
                exact nT hc (by decide)
              · intro h
                obtain ⟨q, hq, e⟩ := List.mem_map.1 h
                have h1 := (p2.blk.lt hq).2
                omega
            have hFB : F < B2 := by omega
            have hBG : ∀ q ∈ fs ++ [(g, cg)], ¬ q.1 = F := fun q hq e => by
              have := (bZ.lt hq).1
              omega
            refine ⟨A1, c1, fs ++ [(g, cg)], ?_, ⟨?_, ?_, ?_⟩, ?_⟩
            · rw [heap_setCell_same _ _ 2 _ _ _ hF8]
              rfl
            · rw [nsOf_length]
              have := ownsRow_kpt h8 K9 (fun b hb e => by have := own_base h8 b hb; omega)
              rw [hnx, vals_snoc, imC_snoc _ _ _ _ hlk]
              exact this
            · rw [hsx]
              exact bZ.kpt K9 hBG
            · rw [nsOf_length]
              simp [hfk]
            · exact (((p3x.trans (Kpt.of_below b9')).trans (Kpt.of_below ba)).up K8 (fun b hb => .inr (by have := own_base p2.row b (own_img p2.row hb); omega))).up K9 (fun b hb => .inl hb)
          have HFIN2 := hid FIN2; have HNX := hid NX; have HNF := hid hnF
          have HGLN := hid hgl
          clear hgl FIN2 NX hnF p1 p2 p3 Q2 Q3 HI hoz hrd hrd' hhl hFx p2x Q3x p3x hxr hnx hsx hd hgm hvm hnm i1 i2 hwF x0 x1 x2
          go_wp2_with fail
          refine wp_region_held_drew (S := fun W1 => W1.cell? ⟨wr.heap.size, 0, none⟩ = some (.int .i64 x) ∧ W1.cell? ⟨wr.heap.size, 1, none⟩ = some (.slice (some ⟨gm, 0, none⟩) 4096 cm) ∧ W1.cell? ⟨Hb, m, none⟩ = some (.slice (some ⟨gi, d, none⟩) 64 (ci - d))) (by kernel_rfl) (by exact sX) (fun hHeld => ?_)
          refine wpAnyH_take (i := 0) (oi := ?o0z11) (v := ?v0z11) ?hi0z11 (by kernel_rfl) (by kernel_rfl) ?hr0z11 ?hQ0z11 ?hy0z11 hHeld ?r0z11
          case hi0z11 => (simp only [List.getElem?_toArray, List.getElem?_cons_zero, List.getElem?_cons_succ]; rfl)
          case hr0z11 => kernel_rfl
          case hQ0z11 => exact fun _ _ _ h => h
          case hy0z11 => (refine Or.inl ⟨by rfl, ?_⟩; intro w hSw; (try dsimp only at hSw); go_simp; try with_reducible rfl)
          try simp only [Act.put, List.setIfInBounds_toArray, List.set_cons_zero, List.set_cons_succ]
          refine wpAnyH_take (i := 2) (oi := ?o2z11) (v := ?v2z11) ?hi2z11 (by kernel_rfl) (by kernel_rfl) ?hr2z11 ?hQ2z11 ?hy2z11 hHeld ?r2z11
          case hi2z11 => (simp only [List.getElem?_toArray, List.getElem?_cons_zero, List.getElem?_cons_succ]; rfl)
          case hr2z11 => kernel_rfl
          case hQ2z11 => exact fun _ _ _ h => h
          case hy2z11 => (refine Or.inl ⟨by rfl, ?_⟩; intro w hSw; (try dsimp only at hSw); go_simp; try with_reducible rfl)
          try simp only [Act.put, List.setIfInBounds_toArray, List.set_cons_zero, List.set_cons_succ]
          refine wpAnyH_take (i := 3) (oi := ?o3z11) (v := ?v3z11) ?hi3z11 (by kernel_rfl) (by kernel_rfl) ?hr3z11 ?hQ3z11 ?hy3z11 hHeld ?r3z11
          case hi3z11 => (simp only [List.getElem?_toArray, List.getElem?_cons_zero, List.getElem?_cons_succ]; rfl)
          case hr3z11 => kernel_rfl
          case hQ3z11 => exact fun _ _ _ h => h
          case hy3z11 => (refine Or.inl ⟨by rfl, ?_⟩; intro w hSw; (try dsimp only at hSw); go_simp; try with_reducible rfl)
          try simp only [Act.put, List.setIfInBounds_toArray, List.set_cons_zero, List.set_cons_succ]
          refine wpAnyH_take (i := 4) (oi := ?o4z11) (v := ?v4z11) ?hi4z11 (by kernel_rfl) (by kernel_rfl) ?hr4z11 ?hQ4z11 ?hy4z11 hHeld ?r4z11
          case hi4z11 => (simp only [List.getElem?_toArray, List.getElem?_cons_zero, List.getElem?_cons_succ]; rfl)
          case hr4z11 => kernel_rfl
          case hQ4z11 => exact fun _ _ _ h => h
          case hy4z11 => (refine Or.inl ⟨by rfl, ?_⟩; intro w hSw; (try dsimp only at hSw); go_simp; try with_reducible rfl)
          try simp only [Act.put, List.setIfInBounds_toArray, List.set_cons_zero, List.set_cons_succ]
          refine wpAnyH_take (i := 5) (oi := ?o5z11) (v := ?v5z11) ?hi5z11 (by kernel_rfl) (by kernel_rfl) ?hr5z11 ?hQ5z11 ?hy5z11 hHeld ?r5z11
          case hi5z11 => (simp only [List.getElem?_toArray, List.getElem?_cons_zero, List.getElem?_cons_succ]; rfl)
          case hr5z11 => kernel_rfl
          case hQ5z11 => exact fun _ _ _ h => h
          case hy5z11 => (refine Or.inl ⟨by rfl, ?_⟩; intro w hSw; (try dsimp only at hSw); go_simp; try with_reducible rfl)
          try simp only [Act.put, List.setIfInBounds_toArray, List.set_cons_zero, List.set_cons_succ]
          refine wpAnyH_take (i := 6) (oi := ?o6z11) (v := ?v6z11) ?hi6z11 (by kernel_rfl) (by kernel_rfl) ?hr6z11 ?hQ6z11 ?hy6z11 hHeld ?r6z11
          case hi6z11 => (simp only [List.getElem?_toArray, List.getElem?_cons_zero, List.getElem?_cons_succ]; rfl)
          case hr6z11 => kernel_rfl
          case hQ6z11 => exact fun _ _ _ h => h
          case hy6z11 => (refine Or.inl ⟨by rfl, ?_⟩; intro w hSw; (try dsimp only at hSw); go_simp; try with_reducible rfl)
          try simp only [Act.put, List.setIfInBounds_toArray, List.set_cons_zero, List.set_cons_succ]
          refine wpAnyH_take (i := 7) (oi := ?o7z11) (v := ?v7z11) ?hi7z11 (by kernel_rfl) (by kernel_rfl) ?hr7z11 ?hQ7z11 ?hy7z11 hHeld ?r7z11
          case hi7z11 => (simp only [List.getElem?_toArray, List.getElem?_cons_zero, List.getElem?_cons_succ]; rfl)
          case hr7z11 => kernel_rfl
          case hQ7z11 => exact fun _ _ _ h => h
          case hy7z11 => (refine Or.inl ⟨by rfl, ?_⟩; intro w hSw; (try dsimp only at hSw); go_simp; try with_reducible rfl)
          try simp only [Act.put, List.setIfInBounds_toArray, List.set_cons_zero, List.set_cons_succ]
          refine wpAnyH_take (i := 8) (oi := ?o8z11) (v := ?v8z11) ?hi8z11 (by kernel_rfl) (by kernel_rfl) ?hr8z11 ?hQ8z11 ?hy8z11 hHeld ?r8z11
          case hi8z11 => (simp only [List.getElem?_toArray, List.getElem?_cons_zero, List.getElem?_cons_succ]; rfl)
          case hr8z11 => kernel_rfl
          case hQ8z11 => exact fun _ _ _ h => h
          case hy8z11 => (refine Or.inl ⟨by rfl, ?_⟩; intro w hSw; (try dsimp only at hSw); go_simp; try with_reducible rfl)
          try simp only [Act.put, List.setIfInBounds_toArray, List.set_cons_zero, List.set_cons_succ]
          refine wpAnyH_take (i := 9) (oi := ?o9z11) (v := ?v9z11) ?hi9z11 (by kernel_rfl) (by kernel_rfl) ?hr9z11 ?hQ9z11 ?hy9z11 hHeld ?r9z11
          case hi9z11 => (simp only [List.getElem?_toArray, List.getElem?_cons_zero, List.getElem?_cons_succ]; rfl)
          case hr9z11 => kernel_rfl
          case hQ9z11 => exact fun _ _ _ h => h
          case hy9z11 => (refine Or.inl ⟨by rfl, ?_⟩; intro w hSw; (try dsimp only at hSw); go_simp; try with_reducible rfl)
          try simp only [Act.put, List.setIfInBounds_toArray, List.set_cons_zero, List.set_cons_succ]
          refine wpAnyH_ready (rs := [1, 10]) (by kernel_rfl) (by simp) (AllReadyH.cons (o := ?p1y20) ?gi1y20 (fun K hK => ?q1y20) (AllReadyH.cons (o := ?p10y20) ?gj10y20 (fun K hK => ?q10y20) AllReadyH.nil))
          case gi1y20 => (simp only [List.getElem?_toArray, List.getElem?_cons_zero, List.getElem?_cons_succ]; rfl)
          case gj10y20 => (simp only [List.getElem?_toArray, List.getElem?_cons_zero, List.getElem?_cons_succ]; rfl)
          case q1y20 =>
            go_simp
            refine hK.out _ _ (by exact sX) (fun hHeld => ?_)
            clear hK K
            try simp only [Act.put, List.setIfInBounds_toArray, List.set_cons_zero, List.set_cons_succ]
            refine wpAnyH_ready (rs := [10]) (by kernel_rfl) (by simp) (AllReadyH.cons (o := ?o10z12) ?hi10z12 (fun K hK => ?r10z12) AllReadyH.nil)
            case hi10z12 => (simp only [List.getElem?_toArray, List.getElem?_cons_zero, List.getElem?_cons_succ]; rfl)
            go_simp
            refine SHN.mono ?_
            rintro e w9 ⟨g, cg, rfl, hog, b9⟩
            obtain ⟨s9, f9, hF9, o9, z9⟩ := HNX.out w9 b9
            have ba : Below w9.heap.size w9 (w9.alloc (.cells #[.int .i64 x, .slice (some ⟨g, 0, none⟩) 4096 cg] 38)) := (Below.refl _ _).alloc (Nat.le_refl _) _
            have s9a := And.intro (cell_below ba s9.1) (And.intro (cell_below ba s9.2.1) (cell_below ba s9.2.2))
            have f9a := cell_below ba f9
            have hF9a := (ba.block _ (heap_in hF9)).trans hF9
            have O9 := hid (own_below o9 ba)
            have hz9a : B2 ≤ (w9.alloc (.cells #[.int .i64 x, .slice (some ⟨g, 0, none⟩) 4096 cg] 38)).heap.size := Nat.le_trans z9 ba.size
            have R9 : RdV (w9.alloc (.cells #[.int .i64 x, .slice (some ⟨g, 0, none⟩) 4096 cg] 38)) (some ⟨w9.heap.size, 0, none⟩) [.int .i64 x, .slice (some ⟨g, 0, none⟩) 4096 cg] := RdV.new w9 #[.int .i64 x, .slice (some ⟨g, 0, none⟩) 4096 cg] 38
            clear o9 hF9 z9
            refine hK.out _ _ (by exact s9) (fun hHeld => ?_)
            clear hK K
            try simp only [Act.put, List.setIfInBounds_toArray, List.set_cons_zero, List.set_cons_succ]
            refine wpAnyH_take (i := 11) (oi := ?o11z12) (v := ?v11z12) ?hi11z12 (by kernel_rfl) (by kernel_rfl) ?hr11z12 ?hQ11z12 ?hy11z12 hHeld ?r11z12
            case hi11z12 => (simp only [List.getElem?_toArray, List.getElem?_cons_zero, List.getElem?_cons_succ]; rfl)
            case hr11z12 => kernel_rfl
            case hQ11z12 => exact fun _ _ _ h => h
            case hy11z12 => (refine Or.inl ⟨by rfl, ?_⟩; intro w hSw; (try dsimp only at hSw); go_simp; try with_reducible rfl)
            try simp only [Act.put, List.setIfInBounds_toArray, List.set_cons_zero, List.set_cons_succ]
            refine wpAnyH_ready (rs := [12]) (by kernel_rfl) (by simp) (AllReadyH.cons (o := ?o12z12) ?hi12z12 (fun K hK => ?r12z12) AllReadyH.nil)
            case hi12z12 => (simp only [List.getElem?_toArray, List.getElem?_cons_zero, List.getElem?_cons_succ]; rfl)
            go_simp
            refine hK.out _ _ (by exact s9a) (fun hHeld => ?_)
            clear hK K
            try simp only [Act.put, List.setIfInBounds_toArray, List.set_cons_zero, List.set_cons_succ]
            refine wpAnyH_ready (rs := [13]) (by kernel_rfl) (by simp) (AllReadyH.cons (o := ?o13z13) ?hi13z13 (fun K hK => ?r13z13) AllReadyH.nil)
            case hi13z13 => (simp only [List.getElem?_toArray, List.getElem?_cons_zero, List.getElem?_cons_succ]; rfl)
            refine step_own rfl (.tmp 99) (.tmp 110) 26 38 (.agg #[.int .i64 0, .slice none 0 0]) 2 32 rfl Try.underlying26 info_I rfl (by decide) (by decide) B2 fa fc m (imC (nsOf inn m) (vals fs)) rfl O9.out (some ⟨w9.heap.size, 0, none⟩) 1 1 [.int .i64 x, .slice (some ⟨g, 0, none⟩) 4096 cg] rfl rfl R9 (by simp [Value.oneCell']) (by omega) hz9a ?_
            intro A1 c1 w8 h8 K8 hA8
            have hF8 := K8.row hF9a (fun h => (HNF.out F h).1 rfl)
            have fF8 := frozen_of_row _ F 2 _ _ hF8
            have cF8 := (cells3 hF8).2.2
            have s8 := And.intro (K8.cell s9a.1 (fun h => (HNF.out _ h).2.1 rfl)) (And.intro (K8.cell s9a.2.1 (fun h => (HNF.out _ h).2.1 rfl)) (K8.cell s9a.2.2 (fun h => (HNF.out _ h).2.2 rfl)))
            have K8s : Kpt (fun b => b = F) w8 (w8.setCell ⟨F, 2, none⟩ (.slice A1 (m + 1) c1)) := (Kpt.refl (fun b => b = F) w8).stc rfl _
            have s8s := And.intro (K8s.cell s8.1 (by omega)) (And.intro (K8s.cell s8.2.1 (by omega)) (K8s.cell s8.2.2 (by omega)))
            have H8 := hid h8
            clear h8 hF8
            refine hK.out _ _ (by exact s8) (fun hHeld => ?_)
            clear hK K
            try simp only [Act.put, List.setIfInBounds_toArray, List.set_cons_zero, List.set_cons_succ]
            refine wpAnyH_take (i := 14) (oi := ?o14z13) (v := ?v14z13) ?hi14z13 (by kernel_rfl) (by kernel_rfl) ?hr14z13 ?hQ14z13 ?hy14z13 hHeld ?r14z13
            case hi14z13 => (simp only [List.getElem?_toArray, List.getElem?_cons_zero, List.getElem?_cons_succ]; rfl)
            case hr14z13 => kernel_rfl
            case hQ14z13 => exact fun _ _ _ h => h
            case hy14z13 => (refine Or.inl ⟨by rfl, ?_⟩; intro w hSw; (try dsimp only at hSw); go_simp; try with_reducible rfl)
            try simp only [Act.put, List.setIfInBounds_toArray, List.set_cons_zero, List.set_cons_succ]
            refine wpAnyH_ready (rs := [15]) (by kernel_rfl) (by simp) (AllReadyH.cons (o := ?o15z13) ?hi15z13 (fun K hK => ?r15z13) AllReadyH.nil)
            case hi15z13 => (simp only [List.getElem?_toArray, List.getElem?_cons_zero, List.getElem?_cons_succ]; rfl)
            go_simp
            refine hK.out _ _ (by exact s8s) (fun hHeld => ?_)
            clear hK K
            try simp only [Act.put, List.setIfInBounds_toArray, List.set_cons_zero, List.set_cons_succ]
            refine wpAnyH_done (by kernel_rfl) ?_ _
            go_wp2_with fail
            go_roundw
            case rel => exact ⟨m + 1, by omega, by go_num, HFIN2.out w9 g cg hog b9 A1 c1 w8 H8.out K8⟩
            case measure => simp [intOf]; omega
          case q10y20 =>
            go_simp
            refine SHN.mono ?_
            rintro e w9 ⟨g, cg, rfl, hog, b9⟩
            obtain ⟨s9, f9, hF9, o9, z9⟩ := HNX.out w9 b9
            have ba : Below w9.heap.size w9 (w9.alloc (.cells #[.int .i64 x, .slice (some ⟨g, 0, none⟩) 4096 cg] 38)) := (Below.refl _ _).alloc (Nat.le_refl _) _
            have s9a := And.intro (cell_below ba s9.1) (And.intro (cell_below ba s9.2.1) (cell_below ba s9.2.2))
            have f9a := cell_below ba f9
            have hF9a := (ba.block _ (heap_in hF9)).trans hF9
            have O9 := hid (own_below o9 ba)
            have hz9a : B2 ≤ (w9.alloc (.cells #[.int .i64 x, .slice (some ⟨g, 0, none⟩) 4096 cg] 38)).heap.size := Nat.le_trans z9 ba.size
            have R9 : RdV (w9.alloc (.cells #[.int .i64 x, .slice (some ⟨g, 0, none⟩) 4096 cg] 38)) (some ⟨w9.heap.size, 0, none⟩) [.int .i64 x, .slice (some ⟨g, 0, none⟩) 4096 cg] := RdV.new w9 #[.int .i64 x, .slice (some ⟨g, 0, none⟩) 4096 cg] 38
            clear o9 hF9 z9
            refine hK.out _ _ (by exact s9) (fun hHeld => ?_)
            clear hK K
            try simp only [Act.put, List.setIfInBounds_toArray, List.set_cons_zero, List.set_cons_succ]
            refine wpAnyH_take (i := 11) (oi := ?o11z14) (v := ?v11z14) ?hi11z14 (by kernel_rfl) (by kernel_rfl) ?hr11z14 ?hQ11z14 ?hy11z14 hHeld ?r11z14
            case hi11z14 => (simp only [List.getElem?_toArray, List.getElem?_cons_zero, List.getElem?_cons_succ]; rfl)
            case hr11z14 => kernel_rfl
            case hQ11z14 => exact fun _ _ _ h => h
            case hy11z14 => (refine Or.inl ⟨by rfl, ?_⟩; intro w hSw; (try dsimp only at hSw); go_simp; try with_reducible rfl)
            try simp only [Act.put, List.setIfInBounds_toArray, List.set_cons_zero, List.set_cons_succ]
            refine wpAnyH_ready (rs := [1, 12]) (by kernel_rfl) (by simp) (AllReadyH.cons (o := ?p1y19) ?gi1y19 (fun K hK => ?q1y19) (AllReadyH.cons (o := ?p12y19) ?gj12y19 (fun K hK => ?q12y19) AllReadyH.nil))
            case gi1y19 => (simp only [List.getElem?_toArray, List.getElem?_cons_zero, List.getElem?_cons_succ]; rfl)
            case gj12y19 => (simp only [List.getElem?_toArray, List.getElem?_cons_zero, List.getElem?_cons_succ]; rfl)
            case q1y19 =>
              go_simp
              refine hK.out _ _ (by exact s9) (fun hHeld => ?_)
              clear hK K
              try simp only [Act.put, List.setIfInBounds_toArray, List.set_cons_zero, List.set_cons_succ]
              refine wpAnyH_ready (rs := [12]) (by kernel_rfl) (by simp) (AllReadyH.cons (o := ?o12z15) ?hi12z15 (fun K hK => ?r12z15) AllReadyH.nil)
              case hi12z15 => (simp only [List.getElem?_toArray, List.getElem?_cons_zero, List.getElem?_cons_succ]; rfl)
              go_simp
              refine hK.out _ _ (by exact s9a) (fun hHeld => ?_)
              clear hK K
              try simp only [Act.put, List.setIfInBounds_toArray, List.set_cons_zero, List.set_cons_succ]
              refine wpAnyH_ready (rs := [13]) (by kernel_rfl) (by simp) (AllReadyH.cons (o := ?o13z16) ?hi13z16 (fun K hK => ?r13z16) AllReadyH.nil)
              case hi13z16 => (simp only [List.getElem?_toArray, List.getElem?_cons_zero, List.getElem?_cons_succ]; rfl)
              refine step_own rfl (.tmp 99) (.tmp 110) 26 38 (.agg #[.int .i64 0, .slice none 0 0]) 2 32 rfl Try.underlying26 info_I rfl (by decide) (by decide) B2 fa fc m (imC (nsOf inn m) (vals fs)) rfl O9.out (some ⟨w9.heap.size, 0, none⟩) 1 1 [.int .i64 x, .slice (some ⟨g, 0, none⟩) 4096 cg] rfl rfl R9 (by simp [Value.oneCell']) (by omega) hz9a ?_
              intro A1 c1 w8 h8 K8 hA8
              have hF8 := K8.row hF9a (fun h => (HNF.out F h).1 rfl)
              have fF8 := frozen_of_row _ F 2 _ _ hF8
              have cF8 := (cells3 hF8).2.2
              have s8 := And.intro (K8.cell s9a.1 (fun h => (HNF.out _ h).2.1 rfl)) (And.intro (K8.cell s9a.2.1 (fun h => (HNF.out _ h).2.1 rfl)) (K8.cell s9a.2.2 (fun h => (HNF.out _ h).2.2 rfl)))
              have K8s : Kpt (fun b => b = F) w8 (w8.setCell ⟨F, 2, none⟩ (.slice A1 (m + 1) c1)) := (Kpt.refl (fun b => b = F) w8).stc rfl _
              have s8s := And.intro (K8s.cell s8.1 (by omega)) (And.intro (K8s.cell s8.2.1 (by omega)) (K8s.cell s8.2.2 (by omega)))
              have H8 := hid h8
              clear h8 hF8
              refine hK.out _ _ (by exact s8) (fun hHeld => ?_)
              clear hK K
              try simp only [Act.put, List.setIfInBounds_toArray, List.set_cons_zero, List.set_cons_succ]
              refine wpAnyH_take (i := 14) (oi := ?o14z16) (v := ?v14z16) ?hi14z16 (by kernel_rfl) (by kernel_rfl) ?hr14z16 ?hQ14z16 ?hy14z16 hHeld ?r14z16
              case hi14z16 => (simp only [List.getElem?_toArray, List.getElem?_cons_zero, List.getElem?_cons_succ]; rfl)
              case hr14z16 => kernel_rfl
              case hQ14z16 => exact fun _ _ _ h => h
              case hy14z16 => (refine Or.inl ⟨by rfl, ?_⟩; intro w hSw; (try dsimp only at hSw); go_simp; try with_reducible rfl)
              try simp only [Act.put, List.setIfInBounds_toArray, List.set_cons_zero, List.set_cons_succ]
              refine wpAnyH_ready (rs := [15]) (by kernel_rfl) (by simp) (AllReadyH.cons (o := ?o15z16) ?hi15z16 (fun K hK => ?r15z16) AllReadyH.nil)
              case hi15z16 => (simp only [List.getElem?_toArray, List.getElem?_cons_zero, List.getElem?_cons_succ]; rfl)
              go_simp
              refine hK.out _ _ (by exact s8s) (fun hHeld => ?_)
              clear hK K
              try simp only [Act.put, List.setIfInBounds_toArray, List.set_cons_zero, List.set_cons_succ]
              refine wpAnyH_done (by kernel_rfl) ?_ _
              go_wp2_with fail
              go_roundw
              case rel => exact ⟨m + 1, by omega, by go_num, HFIN2.out w9 g cg hog b9 A1 c1 w8 H8.out K8⟩
              case measure => simp [intOf]; omega
            case q12y19 =>
              go_simp
              refine hK.out _ _ (by exact s9a) (fun hHeld => ?_)
              clear hK K
              try simp only [Act.put, List.setIfInBounds_toArray, List.set_cons_zero, List.set_cons_succ]
              refine wpAnyH_ready (rs := [1]) (by kernel_rfl) (by simp) (AllReadyH.cons (o := ?o1z17) ?hi1z17 (fun K hK => ?r1z17) AllReadyH.nil)
              case hi1z17 => (simp only [List.getElem?_toArray, List.getElem?_cons_zero, List.getElem?_cons_succ]; rfl)
              go_simp
              refine hK.out _ _ (by exact s9a) (fun hHeld => ?_)
              clear hK K
              try simp only [Act.put, List.setIfInBounds_toArray, List.set_cons_zero, List.set_cons_succ]
              refine wpAnyH_ready (rs := [13]) (by kernel_rfl) (by simp) (AllReadyH.cons (o := ?o13z18) ?hi13z18 (fun K hK => ?r13z18) AllReadyH.nil)
              case hi13z18 => (simp only [List.getElem?_toArray, List.getElem?_cons_zero, List.getElem?_cons_succ]; rfl)
              refine step_own rfl (.tmp 99) (.tmp 110) 26 38 (.agg #[.int .i64 0, .slice none 0 0]) 2 32 rfl Try.underlying26 info_I rfl (by decide) (by decide) B2 fa fc m (imC (nsOf inn m) (vals fs)) rfl O9.out (some ⟨w9.heap.size, 0, none⟩) 1 1 [.int .i64 x, .slice (some ⟨g, 0, none⟩) 4096 cg] rfl rfl R9 (by simp [Value.oneCell']) (by omega) hz9a ?_
              intro A1 c1 w8 h8 K8 hA8
              have hF8 := K8.row hF9a (fun h => (HNF.out F h).1 rfl)
              have fF8 := frozen_of_row _ F 2 _ _ hF8
              have cF8 := (cells3 hF8).2.2
              have s8 := And.intro (K8.cell s9a.1 (fun h => (HNF.out _ h).2.1 rfl)) (And.intro (K8.cell s9a.2.1 (fun h => (HNF.out _ h).2.1 rfl)) (K8.cell s9a.2.2 (fun h => (HNF.out _ h).2.2 rfl)))
              have K8s : Kpt (fun b => b = F) w8 (w8.setCell ⟨F, 2, none⟩ (.slice A1 (m + 1) c1)) := (Kpt.refl (fun b => b = F) w8).stc rfl _
              have s8s := And.intro (K8s.cell s8.1 (by omega)) (And.intro (K8s.cell s8.2.1 (by omega)) (K8s.cell s8.2.2 (by omega)))
              have H8 := hid h8
              clear h8 hF8
              refine hK.out _ _ (by exact s8) (fun hHeld => ?_)
              clear hK K
              try simp only [Act.put, List.setIfInBounds_toArray, List.set_cons_zero, List.set_cons_succ]
              refine wpAnyH_take (i := 14) (oi := ?o14z18) (v := ?v14z18) ?hi14z18 (by kernel_rfl) (by kernel_rfl) ?hr14z18 ?hQ14z18 ?hy14z18 hHeld ?r14z18
              case hi14z18 => (simp only [List.getElem?_toArray, List.getElem?_cons_zero, List.getElem?_cons_succ]; rfl)
              case hr14z18 => kernel_rfl
              case hQ14z18 => exact fun _ _ _ h => h
              case hy14z18 => (refine Or.inl ⟨by rfl, ?_⟩; intro w hSw; (try dsimp only at hSw); go_simp; try with_reducible rfl)
              try simp only [Act.put, List.setIfInBounds_toArray, List.set_cons_zero, List.set_cons_succ]
              refine wpAnyH_ready (rs := [15]) (by kernel_rfl) (by simp) (AllReadyH.cons (o := ?o15z18) ?hi15z18 (fun K hK => ?r15z18) AllReadyH.nil)
              case hi15z18 => (simp only [List.getElem?_toArray, List.getElem?_cons_zero, List.getElem?_cons_succ]; rfl)
              go_simp
              refine hK.out _ _ (by exact s8s) (fun hHeld => ?_)
              clear hK K
              try simp only [Act.put, List.setIfInBounds_toArray, List.set_cons_zero, List.set_cons_succ]
              refine wpAnyH_done (by kernel_rfl) ?_ _
              go_wp2_with fail
              go_roundw
              case rel => exact ⟨m + 1, by omega, by go_num, HFIN2.out w9 g cg hog b9 A1 c1 w8 H8.out K8⟩
              case measure => simp [intOf]; omega
        · obtain rfl : m = k := by omega
          have hwF : ∀ {cs : Array Value} {t : TypeId} {b : Nat}, w7.heap[b]? = some (.cells cs t (0, 0)) → t ≠ 28 → ¬ b = F := fun hc ht e => by
            subst e
            have := HF7.out
            rw [hc] at this
            simp only [Option.some.injEq, Obj.cells.injEq] at this
            exact ht this.2.1
          have hFG : G ≠ F := by omega
          have hFR : w.heap.size ≠ F := by have := HGD.out; omega
          have Q2 := Q27.out.kpt p3 (fun b hb => by
            obtain ⟨cs, hc⟩ := own_rowc Q27.out.row (own_img Q27.out.row hb)
            exact hwF hc (by decide)) (fun q hq => by
            obtain ⟨cs, hc⟩ := Q27.out.blk.u8 hq
            exact hwF hc (by decide))
          have Q3 := ownsRow_kpt Q37.out p3 (fun b hb => by
            obtain ⟨cs, hc⟩ := own_rowc Q37.out hb
            exact hwF hc (by decide))
          have HI := HI7.out.kpt p3 (by
            obtain ⟨cur, hc, _⟩ := HI7.out.row
            exact hwF hc (by decide))
          have Gr := p3.row Q17.out hFG
          have Rr := p3.row HR7.out hFR
          have Lr := Hr7.out.kpt p3 (by have := hbG.out; have := HGD.out; omega)
          have Bw := belowK HBW7.out p3 (fun b hb => by have := HGD.out; omega) HBW7.out.size
          have PUT := Put_any wr (E : Int) (Q : Int) fa m fc (rdIms inn m) (rdIms_length inn m).symm p2.rd
          simp only [Int.toNat_natCast] at PUT
          have hGs := heap_in Gr
          have hRs := heap_in Rr
          obtain ⟨F0, F1, F2⟩ := cells3 p1
          clear hwF p1 p2 Q17 Q27 Q37 HI7 HR7 Hr7 HBW7 HF7 p3
          go_wp2_with fail
          refine PUT.mono ?_
          rintro e w10 ⟨b10, hno, hyes⟩
          clear PUT F0 F1 F2
          have Q2' := Q2.below b10
          have Q3' := own_below Q3 b10
          have HI' := HI.below b10
          have Gr' := (b10.block _ hGs).trans Gr
          have Rr' := (b10.block _ hRs).trans Rr
          have Lr' := Lr.below b10
          have Bw' := Bw.trans (b10.mono Bw.size)
          have hs := set3 Rr' (.int .i64 (E : Int)) (.int .i64 (Q : Int)) (.slice (some ⟨Ib, 0, none⟩) m ic)
          obtain ⟨g0, g1, g2⟩ := cells3 Gr'
          obtain ⟨y0, y1, y2⟩ := cells3 Rr'
          have f0 := frozen_of_row w10 w.heap.size 0 _ _ Rr'
          have f1 := frozen_of_row w10 w.heap.size 1 _ _ Rr'
          have f2 := frozen_of_row w10 w.heap.size 2 _ _ Rr'
          have sG : w10.drew.cell? ⟨G, 0, none⟩ = some (.int .i64 (E : Int)) ∧ w10.drew.cell? ⟨G, 1, none⟩ = some (.int .i64 (Q : Int)) ∧ w10.drew.cell? ⟨G, 2, none⟩ = some (.slice (some ⟨Ib, 0, none⟩) m ic) := ⟨g0, g1, g2⟩
          have sG2 : (((w10.setCell ⟨w.heap.size, 0, none⟩ (.int .i64 (E : Int))).setCell ⟨w.heap.size, 1, none⟩ (.int .i64 (Q : Int))).setCell ⟨w.heap.size, 2, none⟩ (.slice (some ⟨Ib, 0, none⟩) m ic)).drew.cell? ⟨G, 0, none⟩ = some (.int .i64 (E : Int)) ∧ (((w10.setCell ⟨w.heap.size, 0, none⟩ (.int .i64 (E : Int))).setCell ⟨w.heap.size, 1, none⟩ (.int .i64 (Q : Int))).setCell ⟨w.heap.size, 2, none⟩ (.slice (some ⟨Ib, 0, none⟩) m ic)).drew.cell? ⟨G, 1, none⟩ = some (.int .i64 (Q : Int)) ∧ (((w10.setCell ⟨w.heap.size, 0, none⟩ (.int .i64 (E : Int))).setCell ⟨w.heap.size, 1, none⟩ (.int .i64 (Q : Int))).setCell ⟨w.heap.size, 2, none⟩ (.slice (some ⟨Ib, 0, none⟩) m ic)).drew.cell? ⟨G, 2, none⟩ = some (.slice (some ⟨Ib, 0, none⟩) m ic) :=
            ⟨hs.2.cell g0 (fun e => hRG e.symm), hs.2.cell g1 (fun e => hRG e.symm), hs.2.cell g2 (fun e => hRG e.symm)⟩
          obtain ⟨x0, x1, x2⟩ := cells3 hs.1
          have FIN3 : Below w.heap.size w (((w10.setCell ⟨w.heap.size, 0, none⟩ (.int .i64 (E : Int))).setCell ⟨w.heap.size, 1, none⟩ (.int .i64 (Q : Int))).setCell ⟨w.heap.size, 2, none⟩ (.slice (some ⟨Ib, 0, none⟩) m ic)).drew ∧ ∃ gs gi ci, OwIm w.heap.size (((w10.setCell ⟨w.heap.size, 0, none⟩ (.int .i64 (E : Int))).setCell ⟨w.heap.size, 1, none⟩ (.int .i64 (Q : Int))).setCell ⟨w.heap.size, 2, none⟩ (.slice (some ⟨Ib, 0, none⟩) m ic)).drew (some ⟨Ib, 0, none⟩) ic (nsOf inn m) gs (List.replicate m (zeros 4096)) ∧
              (((w10.setCell ⟨w.heap.size, 0, none⟩ (.int .i64 (E : Int))).setCell ⟨w.heap.size, 1, none⟩ (.int .i64 (Q : Int))).setCell ⟨w.heap.size, 2, none⟩ (.slice (some ⟨Ib, 0, none⟩) m ic)).drew.ownsRow w.heap.size 31 1 (.slice (some ⟨Hb, 0, none⟩) m hc') m (hvals gi ci m) ∧ OwnB w.heap.size (((w10.setCell ⟨w.heap.size, 0, none⟩ (.int .i64 (E : Int))).setCell ⟨w.heap.size, 1, none⟩ (.int .i64 (Q : Int))).setCell ⟨w.heap.size, 2, none⟩ (.slice (some ⟨Ib, 0, none⟩) m ic)).drew (some ⟨gi, 0, none⟩) ci inn := by
            have k := hs.2.trans (kpt_drew _ _)
            have hBR : w.heap.size < B := by have := HGD.out; omega
            refine ⟨belowK Bw' k (fun b hb => by omega) Bw'.size, gs, gi, ci, (Q2'.kpt k (fun b hb e => by have := own_base Q2'.row b (own_img Q2'.row hb); omega) (fun q hq e => by have := (Q2'.blk.lt hq).1; omega)).mono (by omega), own_mono (ownsRow_kpt Q3' k (fun b hb e => by have := own_base Q3' b hb; omega)) (by omega), (HI'.kpt k (by have := HGD.out; omega)).mono (by have := HGD.out; omega)⟩
          have HF3 := hid FIN3
          have HK10 := hid hs.2; have HBW := hid Bw.size
          clear FIN3 hs Q2 Q3 HI Gr Rr Lr Bw Q2' Q3' HI' Gr' Rr' Bw' g0 g1 g2
          rcases hR : rightG (E : Int) (Q : Int) (rdIms inn m)
          · obtain rfl := hno hR
            clear hno hyes
            go_wp2_with fail
            refine wp_region_held_drew (S := fun W1 => W1.cell? ⟨G, 0, none⟩ = some (.int .i64 (E : Int)) ∧ W1.cell? ⟨G, 1, none⟩ = some (.int .i64 (Q : Int)) ∧ W1.cell? ⟨G, 2, none⟩ = some (.slice (some ⟨Ib, 0, none⟩) m ic)) (by kernel_rfl) (by exact sG) (fun hHeld => ?_)
            refine wpAnyH_take (i := 0) (oi := ?o0z21) (v := ?v0z21) ?hi0z21 (by kernel_rfl) (by kernel_rfl) ?hr0z21 ?hQ0z21 ?hy0z21 hHeld ?r0z21
            case hi0z21 => (simp only [List.getElem?_toArray, List.getElem?_cons_zero, List.getElem?_cons_succ]; rfl)
            case hr0z21 => kernel_rfl
            case hQ0z21 => exact fun _ _ _ h => h
            case hy0z21 => (refine Or.inl ⟨by rfl, ?_⟩; intro w hSw; (try dsimp only at hSw); go_simp; try with_reducible rfl)
            try simp only [Act.put, List.setIfInBounds_toArray, List.set_cons_zero, List.set_cons_succ]
            refine wpAnyH_take (i := 2) (oi := ?o2z21) (v := ?v2z21) ?hi2z21 (by kernel_rfl) (by kernel_rfl) ?hr2z21 ?hQ2z21 ?hy2z21 hHeld ?r2z21
            case hi2z21 => (simp only [List.getElem?_toArray, List.getElem?_cons_zero, List.getElem?_cons_succ]; rfl)
            case hr2z21 => kernel_rfl
            case hQ2z21 => exact fun _ _ _ h => h
            case hy2z21 => (refine Or.inl ⟨by rfl, ?_⟩; intro w hSw; (try dsimp only at hSw); go_simp; try with_reducible rfl)
            try simp only [Act.put, List.setIfInBounds_toArray, List.set_cons_zero, List.set_cons_succ]
            refine wpAnyH_take (i := 3) (oi := ?o3z21) (v := ?v3z21) ?hi3z21 (by kernel_rfl) (by kernel_rfl) ?hr3z21 ?hQ3z21 ?hy3z21 hHeld ?r3z21
            case hi3z21 => (simp only [List.getElem?_toArray, List.getElem?_cons_zero, List.getElem?_cons_succ]; rfl)
            case hr3z21 => kernel_rfl
            case hQ3z21 => exact fun _ _ _ h => h
            case hy3z21 => (refine Or.inl ⟨by rfl, ?_⟩; intro w hSw; (try dsimp only at hSw); go_simp; try with_reducible rfl)
            try simp only [Act.put, List.setIfInBounds_toArray, List.set_cons_zero, List.set_cons_succ]
            refine wpAnyH_take (i := 4) (oi := ?o4z21) (v := ?v4z21) ?hi4z21 (by kernel_rfl) (by kernel_rfl) ?hr4z21 ?hQ4z21 ?hy4z21 hHeld ?r4z21
            case hi4z21 => (simp only [List.getElem?_toArray, List.getElem?_cons_zero, List.getElem?_cons_succ]; rfl)
            case hr4z21 => kernel_rfl
            case hQ4z21 => exact fun _ _ _ h => h
            case hy4z21 => (refine Or.inl ⟨by rfl, ?_⟩; intro w hSw; (try dsimp only at hSw); go_simp; try with_reducible rfl)
            try simp only [Act.put, List.setIfInBounds_toArray, List.set_cons_zero, List.set_cons_succ]
            refine wpAnyH_take (i := 5) (oi := ?o5z21) (v := undef) ?hi5z21 (by kernel_rfl) (by kernel_rfl) ?hr5z21 ?hQ5z21 ?hy5z21 hHeld ?r5z21
            case hi5z21 => (simp only [List.getElem?_toArray, List.getElem?_cons_zero, List.getElem?_cons_succ]; rfl)
            case hr5z21 => kernel_rfl
            case hQ5z21 => exact fun _ _ _ h => h
            case hy5z21 => exact Or.inr ⟨by rfl, rfl⟩
            try simp only [Act.put, List.setIfInBounds_toArray, List.set_cons_zero, List.set_cons_succ]
            refine wpAnyH_take (i := 6) (oi := ?o6z21) (v := undef) ?hi6z21 (by kernel_rfl) (by kernel_rfl) ?hr6z21 ?hQ6z21 ?hy6z21 hHeld ?r6z21
            case hi6z21 => (simp only [List.getElem?_toArray, List.getElem?_cons_zero, List.getElem?_cons_succ]; rfl)
            case hr6z21 => kernel_rfl
            case hQ6z21 => exact fun _ _ _ h => h
            case hy6z21 => exact Or.inr ⟨by rfl, rfl⟩
            try simp only [Act.put, List.setIfInBounds_toArray, List.set_cons_zero, List.set_cons_succ]
            refine wpAnyH_take (i := 7) (oi := ?o7z21) (v := undef) ?hi7z21 (by kernel_rfl) (by kernel_rfl) ?hr7z21 ?hQ7z21 ?hy7z21 hHeld ?r7z21
            case hi7z21 => (simp only [List.getElem?_toArray, List.getElem?_cons_zero, List.getElem?_cons_succ]; rfl)
            case hr7z21 => kernel_rfl
            case hQ7z21 => exact fun _ _ _ h => h
            case hy7z21 => exact Or.inr ⟨by rfl, rfl⟩
            try simp only [Act.put, List.setIfInBounds_toArray, List.set_cons_zero, List.set_cons_succ]
            refine wpAnyH_take (i := 8) (oi := ?o8z21) (v := undef) ?hi8z21 (by kernel_rfl) (by kernel_rfl) ?hr8z21 ?hQ8z21 ?hy8z21 hHeld ?r8z21
            case hi8z21 => (simp only [List.getElem?_toArray, List.getElem?_cons_zero, List.getElem?_cons_succ]; rfl)
            case hr8z21 => kernel_rfl
            case hQ8z21 => exact fun _ _ _ h => h
            case hy8z21 => exact Or.inr ⟨by rfl, rfl⟩
            try simp only [Act.put, List.setIfInBounds_toArray, List.set_cons_zero, List.set_cons_succ]
            refine wpAnyH_take (i := 9) (oi := ?o9z21) (v := undef) ?hi9z21 (by kernel_rfl) (by kernel_rfl) ?hr9z21 ?hQ9z21 ?hy9z21 hHeld ?r9z21
            case hi9z21 => (simp only [List.getElem?_toArray, List.getElem?_cons_zero, List.getElem?_cons_succ]; rfl)
            case hr9z21 => kernel_rfl
            case hQ9z21 => exact fun _ _ _ h => h
            case hy9z21 => exact Or.inr ⟨by rfl, rfl⟩
            try simp only [Act.put, List.setIfInBounds_toArray, List.set_cons_zero, List.set_cons_succ]
            refine wpAnyH_take (i := 1) (oi := ?o1z21) (v := ?v1z21) ?hi1z21 (by kernel_rfl) (by kernel_rfl) ?hr1z21 ?hQ1z21 ?hy1z21 hHeld ?r1z21
            case hi1z21 => (simp only [List.getElem?_toArray, List.getElem?_cons_zero, List.getElem?_cons_succ]; rfl)
            case hr1z21 => kernel_rfl
            case hQ1z21 => exact fun _ _ _ h => h
            case hy1z21 => (refine Or.inl ⟨by rfl, ?_⟩; intro w hSw; (try dsimp only at hSw); go_simp; try with_reducible rfl)
            try simp only [Act.put, List.setIfInBounds_toArray, List.set_cons_zero, List.set_cons_succ]
            refine wpAnyH_take (i := 10) (oi := ?o10z21) (v := ?v10z21) ?hi10z21 (by kernel_rfl) (by kernel_rfl) ?hr10z21 ?hQ10z21 ?hy10z21 hHeld ?r10z21
            case hi10z21 => (simp only [List.getElem?_toArray, List.getElem?_cons_zero, List.getElem?_cons_succ]; rfl)
            case hr10z21 => kernel_rfl
            case hQ10z21 => exact fun _ _ _ h => h
            case hy10z21 => (refine Or.inl ⟨by rfl, ?_⟩; intro w hSw; (try dsimp only at hSw); go_simp; try with_reducible rfl)
            try simp only [Act.put, List.setIfInBounds_toArray, List.set_cons_zero, List.set_cons_succ]
            refine wpAnyH_ready (rs := [11]) (by kernel_rfl) (by simp) (AllReadyH.cons (o := ?o11z21) ?hi11z21 (fun K hK => ?r11z21) AllReadyH.nil)
            case hi11z21 => (simp only [List.getElem?_toArray, List.getElem?_cons_zero, List.getElem?_cons_succ]; rfl)
            go_simp
            refine hK.out _ _ (by exact sG2) (fun hHeld => ?_)
            clear hK K
            try simp only [Act.put, List.setIfInBounds_toArray, List.set_cons_zero, List.set_cons_succ]
            refine wpAnyH_take (i := 12) (oi := ?o12z21) (v := ?v12z21) ?hi12z21 (by kernel_rfl) (by kernel_rfl) ?hr12z21 ?hQ12z21 ?hy12z21 hHeld ?r12z21
            case hi12z21 => (simp only [List.getElem?_toArray, List.getElem?_cons_zero, List.getElem?_cons_succ]; rfl)
            case hr12z21 => kernel_rfl
            case hQ12z21 => exact fun _ _ _ h => h
            case hy12z21 => (refine Or.inl ⟨by rfl, ?_⟩; intro w hSw; (try dsimp only at hSw); go_simp; try with_reducible rfl)
            try simp only [Act.put, List.setIfInBounds_toArray, List.set_cons_zero, List.set_cons_succ]
            refine wpAnyH_take (i := 13) (oi := ?o13z21) (v := ?v13z21) ?hi13z21 (by kernel_rfl) (by kernel_rfl) ?hr13z21 ?hQ13z21 ?hy13z21 hHeld ?r13z21
            case hi13z21 => (simp only [List.getElem?_toArray, List.getElem?_cons_zero, List.getElem?_cons_succ]; rfl)
            case hr13z21 => kernel_rfl
            case hQ13z21 => exact fun _ _ _ h => h
            case hy13z21 => (refine Or.inl ⟨by rfl, ?_⟩; intro w hSw; (try dsimp only at hSw); go_simp; try with_reducible rfl)
            try simp only [Act.put, List.setIfInBounds_toArray, List.set_cons_zero, List.set_cons_succ]
            refine wpAnyH_done (by kernel_rfl) ?_ _
            have HRR := hid hR
            clear hR
            go_wp2
            refine bodyPost_ret (v := .tuple #[.agg #[.int .i64 (E : Int), .int .i64 (Q : Int), .slice (some ⟨Ib, 0, none⟩) m ic], .slice (some ⟨Hb, 0, none⟩) m hc', .bool false]) ?_ rfl ⟨HF3.out.1, (E : Int), (Q : Int), some ⟨Ib, 0, none⟩, m, ic, some ⟨Hb, 0, none⟩, m, hc', by rw [HRR.out]; rfl, fun h => by rw [HRR.out] at h; cases h⟩
            simp [results, Try.results37, go_sem, x0, x1, x2]
          · obtain ⟨L, cL, ls, rfl, hols⟩ := hyes hR
            have hhl := headB_length E Q (rdIms inn m) (by rw [rdIms_length]; omega)
            have hb0 := hols.blk.len
            obtain ⟨⟨g0', c0'⟩, ls', rfl⟩ : ∃ q ls', ls = q :: ls' := by
              cases ls with
              | nil => simp [putB] at hb0
              | cons q ls' => exact ⟨q, ls', rfl⟩
            obtain ⟨ho0, _⟩ := hols.blk.own 0 _ (headB E Q (rdIms inn m)) rfl rfl
            have l0 := World.ownsRow.cellAt hols.row 0 (by simp [putB])
            have hLr := hols.row
            have hLb := own_base hLr L rfl
            have l0' : w10.cell? ⟨L, 0, none⟩ = some (.slice (some ⟨g0', 0, none⟩) 4096 c0') := l0
            have sL := And.intro sG.1 (And.intro sG.2.1 (And.intro sG.2.2 (show w10.drew.cell? ⟨L, 0, none⟩ = some (.slice (some ⟨g0', 0, none⟩) 4096 c0') from l0')))
            have hLR : ¬ L = w.heap.size := by have := HBW.out; omega
            have sL2 := And.intro sG2.1 (And.intro sG2.2.1 (And.intro sG2.2.2 (show (((w10.setCell ⟨w.heap.size, 0, none⟩ (.int .i64 (E : Int))).setCell ⟨w.heap.size, 1, none⟩ (.int .i64 (Q : Int))).setCell ⟨w.heap.size, 2, none⟩ (.slice (some ⟨Ib, 0, none⟩) m ic)).drew.cell? ⟨L, 0, none⟩ = some (.slice (some ⟨g0', 0, none⟩) 4096 c0') from HK10.out.cell l0' hLR)))
            have EQ := Equal_any w10.drew (some ⟨g0', 0, none⟩) (some ⟨b, off, none⟩) c0' c 4096 4096 (headB E Q (rdIms inn m)) l hhl.symm HHL.out.symm ho0.rd Lr'
            have HRR := hid hR
            have hm1 : (0 : Int) < (m : Int) + 1 := by omega
            clear hno hyes hR hols ho0 l0 hLr hb0 hhl sG sG2
            go_wp2_with fail
            refine wp_region_held_drew (S := fun W1 => W1.cell? ⟨G, 0, none⟩ = some (.int .i64 (E : Int)) ∧ W1.cell? ⟨G, 1, none⟩ = some (.int .i64 (Q : Int)) ∧ W1.cell? ⟨G, 2, none⟩ = some (.slice (some ⟨Ib, 0, none⟩) m ic) ∧ W1.cell? ⟨L, 0, none⟩ = some (.slice (some ⟨g0', 0, none⟩) 4096 c0')) (by kernel_rfl) (by exact sL) (fun hHeld => ?_)
            refine wpAnyH_take (i := 0) (oi := ?o0z22) (v := ?v0z22) ?hi0z22 (by kernel_rfl) (by kernel_rfl) ?hr0z22 ?hQ0z22 ?hy0z22 hHeld ?r0z22
            case hi0z22 => (simp only [List.getElem?_toArray, List.getElem?_cons_zero, List.getElem?_cons_succ]; rfl)
            case hr0z22 => kernel_rfl
            case hQ0z22 => exact fun _ _ _ h => h
            case hy0z22 => (refine Or.inl ⟨by rfl, ?_⟩; intro w hSw; (try dsimp only at hSw); go_simp; try with_reducible rfl)
            try simp only [Act.put, List.setIfInBounds_toArray, List.set_cons_zero, List.set_cons_succ]
            refine wpAnyH_take (i := 2) (oi := ?o2z22) (v := ?v2z22) ?hi2z22 (by kernel_rfl) (by kernel_rfl) ?hr2z22 ?hQ2z22 ?hy2z22 hHeld ?r2z22
            case hi2z22 => (simp only [List.getElem?_toArray, List.getElem?_cons_zero, List.getElem?_cons_succ]; rfl)
            case hr2z22 => kernel_rfl
            case hQ2z22 => exact fun _ _ _ h => h
            case hy2z22 => (refine Or.inl ⟨by rfl, ?_⟩; intro w hSw; (try dsimp only at hSw); go_simp; try with_reducible rfl)
            try simp only [Act.put, List.setIfInBounds_toArray, List.set_cons_zero, List.set_cons_succ]
            refine wpAnyH_take (i := 3) (oi := ?o3z22) (v := ?v3z22) ?hi3z22 (by kernel_rfl) (by kernel_rfl) ?hr3z22 ?hQ3z22 ?hy3z22 hHeld ?r3z22
            case hi3z22 => (simp only [List.getElem?_toArray, List.getElem?_cons_zero, List.getElem?_cons_succ]; rfl)
            case hr3z22 => kernel_rfl
            case hQ3z22 => exact fun _ _ _ h => h
            case hy3z22 => (refine Or.inl ⟨by rfl, ?_⟩; intro w hSw; (try dsimp only at hSw); go_simp; try with_reducible rfl)
            try simp only [Act.put, List.setIfInBounds_toArray, List.set_cons_zero, List.set_cons_succ]
            refine wpAnyH_take (i := 4) (oi := ?o4z22) (v := ?v4z22) ?hi4z22 (by kernel_rfl) (by kernel_rfl) ?hr4z22 ?hQ4z22 ?hy4z22 hHeld ?r4z22
            case hi4z22 => (simp only [List.getElem?_toArray, List.getElem?_cons_zero, List.getElem?_cons_succ]; rfl)
            case hr4z22 => kernel_rfl
            case hQ4z22 => exact fun _ _ _ h => h
            case hy4z22 => (refine Or.inl ⟨by rfl, ?_⟩; intro w hSw; (try dsimp only at hSw); go_simp; try with_reducible rfl)
            try simp only [Act.put, List.setIfInBounds_toArray, List.set_cons_zero, List.set_cons_succ]
            refine wpAnyH_take (i := 5) (oi := ?o5z22) (v := ?v5z22) ?hi5z22 (by kernel_rfl) (by kernel_rfl) ?hr5z22 ?hQ5z22 ?hy5z22 hHeld ?r5z22
            case hi5z22 => (simp only [List.getElem?_toArray, List.getElem?_cons_zero, List.getElem?_cons_succ]; rfl)
            case hr5z22 => kernel_rfl
            case hQ5z22 => exact fun _ _ _ h => h
            case hy5z22 => (refine Or.inl ⟨by rfl, ?_⟩; intro w hSw; (try dsimp only at hSw); go_simp; try with_reducible rfl)
            try simp only [Act.put, List.setIfInBounds_toArray, List.set_cons_zero, List.set_cons_succ]
            refine wpAnyH_take (i := 6) (oi := ?o6z22) (v := ?v6z22) ?hi6z22 (by kernel_rfl) (by kernel_rfl) ?hr6z22 ?hQ6z22 ?hy6z22 hHeld ?r6z22
            case hi6z22 => (simp only [List.getElem?_toArray, List.getElem?_cons_zero, List.getElem?_cons_succ]; rfl)
            case hr6z22 => kernel_rfl
            case hQ6z22 => exact fun _ _ _ h => h
            case hy6z22 => (refine Or.inl ⟨by rfl, ?_⟩; intro w hSw; (try dsimp only at hSw); go_simp; try with_reducible rfl)
            try simp only [Act.put, List.setIfInBounds_toArray, List.set_cons_zero, List.set_cons_succ]
            refine wpAnyH_take (i := 7) (oi := ?o7z22) (v := ?v7z22) ?hi7z22 (by kernel_rfl) (by kernel_rfl) ?hr7z22 ?hQ7z22 ?hy7z22 hHeld ?r7z22
            case hi7z22 => (simp only [List.getElem?_toArray, List.getElem?_cons_zero, List.getElem?_cons_succ]; rfl)
            case hr7z22 => kernel_rfl
            case hQ7z22 => exact fun _ _ _ h => h
            case hy7z22 => (refine Or.inl ⟨by rfl, ?_⟩; intro w hSw; (try dsimp only at hSw); go_simp; try with_reducible rfl)
            try simp only [Act.put, List.setIfInBounds_toArray, List.set_cons_zero, List.set_cons_succ]
            refine wpAnyH_take (i := 8) (oi := ?o8z22) (v := ?v8z22) ?hi8z22 (by kernel_rfl) (by kernel_rfl) ?hr8z22 ?hQ8z22 ?hy8z22 hHeld ?r8z22
            case hi8z22 => (simp only [List.getElem?_toArray, List.getElem?_cons_zero, List.getElem?_cons_succ]; rfl)
            case hr8z22 => kernel_rfl
            case hQ8z22 => exact fun _ _ _ h => h
            case hy8z22 => (refine Or.inl ⟨by rfl, ?_⟩; intro w hSw; (try dsimp only at hSw); go_simp; try with_reducible rfl)
            try simp only [Act.put, List.setIfInBounds_toArray, List.set_cons_zero, List.set_cons_succ]
            refine wpAnyH_take (i := 1) (oi := ?o1z22) (v := ?v1z22) ?hi1z22 (by kernel_rfl) (by kernel_rfl) ?hr1z22 ?hQ1z22 ?hy1z22 hHeld ?r1z22
            case hi1z22 => (simp only [List.getElem?_toArray, List.getElem?_cons_zero, List.getElem?_cons_succ]; rfl)
            case hr1z22 => kernel_rfl
            case hQ1z22 => exact fun _ _ _ h => h
            case hy1z22 => (refine Or.inl ⟨by rfl, ?_⟩; intro w hSw; (try dsimp only at hSw); go_simp; try with_reducible rfl)
            try simp only [Act.put, List.setIfInBounds_toArray, List.set_cons_zero, List.set_cons_succ]
            refine wpAnyH_ready (rs := [9]) (by kernel_rfl) (by simp) (AllReadyH.cons (o := ?o9z22) ?hi9z22 (fun K hK => ?r9z22) AllReadyH.nil)
            case hi9z22 => (simp only [List.getElem?_toArray, List.getElem?_cons_zero, List.getElem?_cons_succ]; rfl)
            go_simp
            refine EQ.mono ?_
            rintro e w' ⟨rfl, rfl⟩
            refine hK.out _ _ (by exact sL) (fun hHeld => ?_)
            clear hK K
            try simp only [Act.put, List.setIfInBounds_toArray, List.set_cons_zero, List.set_cons_succ]
            refine wpAnyH_take (i := 10) (oi := ?o10z22) (v := ?v10z22) ?hi10z22 (by kernel_rfl) (by kernel_rfl) ?hr10z22 ?hQ10z22 ?hy10z22 hHeld ?r10z22
            case hi10z22 => (simp only [List.getElem?_toArray, List.getElem?_cons_zero, List.getElem?_cons_succ]; rfl)
            case hr10z22 => kernel_rfl
            case hQ10z22 => exact fun _ _ _ h => h
            case hy10z22 => (refine Or.inl ⟨by rfl, ?_⟩; intro w hSw; (try dsimp only at hSw); go_simp; try with_reducible rfl)
            try simp only [Act.put, List.setIfInBounds_toArray, List.set_cons_zero, List.set_cons_succ]
            refine wpAnyH_ready (rs := [11]) (by kernel_rfl) (by simp) (AllReadyH.cons (o := ?o11z22) ?hi11z22 (fun K hK => ?r11z22) AllReadyH.nil)
            case hi11z22 => (simp only [List.getElem?_toArray, List.getElem?_cons_zero, List.getElem?_cons_succ]; rfl)
            go_simp
            refine hK.out _ _ (by exact sL2) (fun hHeld => ?_)
            clear hK K
            try simp only [Act.put, List.setIfInBounds_toArray, List.set_cons_zero, List.set_cons_succ]
            refine wpAnyH_take (i := 12) (oi := ?o12z22) (v := ?v12z22) ?hi12z22 (by kernel_rfl) (by kernel_rfl) ?hr12z22 ?hQ12z22 ?hy12z22 hHeld ?r12z22
            case hi12z22 => (simp only [List.getElem?_toArray, List.getElem?_cons_zero, List.getElem?_cons_succ]; rfl)
            case hr12z22 => kernel_rfl
            case hQ12z22 => exact fun _ _ _ h => h
            case hy12z22 => (refine Or.inl ⟨by rfl, ?_⟩; intro w hSw; (try dsimp only at hSw); go_simp; try with_reducible rfl)
            try simp only [Act.put, List.setIfInBounds_toArray, List.set_cons_zero, List.set_cons_succ]
            refine wpAnyH_take (i := 13) (oi := ?o13z22) (v := ?v13z22) ?hi13z22 (by kernel_rfl) (by kernel_rfl) ?hr13z22 ?hQ13z22 ?hy13z22 hHeld ?r13z22
            case hi13z22 => (simp only [List.getElem?_toArray, List.getElem?_cons_zero, List.getElem?_cons_succ]; rfl)
            case hr13z22 => kernel_rfl
            case hQ13z22 => exact fun _ _ _ h => h
            case hy13z22 => (refine Or.inl ⟨by rfl, ?_⟩; intro w hSw; (try dsimp only at hSw); go_simp; try with_reducible rfl)
            try simp only [Act.put, List.setIfInBounds_toArray, List.set_cons_zero, List.set_cons_succ]
            refine wpAnyH_done (by kernel_rfl) ?_ _
            go_wp2
            refine bodyPost_ret (v := .tuple #[.agg #[.int .i64 (E : Int), .int .i64 (Q : Int), .slice (some ⟨Ib, 0, none⟩) m ic], .slice (some ⟨Hb, 0, none⟩) m hc', .bool (headB E Q (rdIms inn m) == l)]) ?_ rfl ⟨HF3.out.1, (E : Int), (Q : Int), some ⟨Ib, 0, none⟩, m, ic, some ⟨Hb, 0, none⟩, m, hc', by rw [HRR.out]; rfl, fun _ => ⟨rfl, rfl, rfl, rfl, HF3.out.2⟩⟩
            simp [results, Try.results37, go_sem, x0, x1, x2]
end Go.Proofs.Ytknhfaplddgnlaa
