/- The walk of the statement SumsJoin. -/
import Derived.Test.YtohileppckhgeaaLaw02
import Derived.Deep.QuietTactic
import Derived.BigQuiet
import Derived.StillTailTactics
import Derived.Deep.RegionLaw
namespace Go.Proofs.Ytohileppckhgeaa
open Go.RowKit
set_option maxHeartbeats 1600000
set_option linter.unusedVariables false
set_option linter.unusedSimpArgs false

/-- Three lists bit by bit, so far. -/
def xorTo (a b c : List UInt8) (k : Nat) : List UInt8 := (List.range k).map fun i => bat a i ^^^ bat b i ^^^ bat c i
theorem xorTo_length (a b c : List UInt8) (k : Nat) : (xorTo a b c k).length = k := by simp [xorTo]
theorem xorTo_succ (a b c : List UInt8) (k : Nat) : xorTo a b c (k + 1) = xorTo a b c k ++ [bat a k ^^^ bat b k ^^^ bat c k] := by simp [xorTo, List.range_succ]
theorem xorTo_bat (a b c : List UInt8) (k i : Nat) (hi : i < k) : bat (xorTo a b c k) i = bat a i ^^^ bat b i ^^^ bat c i := by simp [xorTo, bat, hi]

theorem RdB.take {w : World} {a : Option Addr} {l : List UInt8} (h : RdB w a l) (n : Nat) : RdB w a (l.take n) := by
  have := RdV.take h n
  unfold RdB
  rw [show B8s (l.take n) = (B8s l).take n by simp [B8s, List.map_take]]
  exact this
theorem below_drewN (w : World) (n : Nat) : Below w.heap.size w (w.drewN n) := ⟨rfl, rfl, rfl, Nat.le_refl _, fun _ _ => rfl⟩
theorem below_drew (w : World) : Below w.heap.size w w.drew := ⟨rfl, rfl, rfl, Nat.le_refl _, fun _ _ => rfl⟩
theorem below_new (w : World) (o : Obj) : Below w.heap.size w (w.drew.alloc o) := (below_drew w).alloc (Nat.le_refl _) o
theorem below_over {w w' : World} (h : Below w.heap.size w w') (o : Obj) : Below w.heap.size w (w'.drew.alloc o) := h.trans ((below_new w' o).mono h.size)
/-- append on bytes, as a step of a region that draws its order. -/
theorem step_bytes {ops : Array Oper} {o : Oper} {a : Act} {W : World} {K : Act → World → Prop} {Q : Exit → Act → World → Prop} {E : Prop} (hgd : o.guard = none) (s x : Operand)
    (ho : o.op = .call { callee := .builtin .append, args := #[s, x], argTypes := #[25, 25] })
    (base : Nat) (A0 : Option Addr) (c0 n0 : Nat) (l : List UInt8) (hn0 : n0 = l.length) (hs : a.eval s = .slice A0 n0 c0) (HO : OwnB base W A0 c0 l)
    (A : Option Addr) (m c : Nat) (r : List UInt8) (hx : a.eval x = .slice A m c) (hl : m = r.length) (HR : RdB W A r)
    (n1 : Nat) (hn1 : n1 = l.length + r.length) (hbytes : l.length + r.length ≤ 200000000000000) (w0 : World) (hB : Below base w0 W) (hbase : base ≤ W.heap.size)
    (h : ∀ A1 c1 w1, OwnB base w1 A1 c1 (l ++ r) → Below base w0 w1 → K (a.put o.dst (.slice A1 n1 c1)) w1) :
    if Region.wanted o (yielded ops a.tmps) = true then Oper.wp Try.prog o a W K Q else E := by
  subst hl hn0 hn1
  have hw : Region.wanted o (yielded ops a.tmps) = true := by simp [Region.wanted, hgd]
  rw [if_pos hw]
  obtain ⟨i0, hi, hz0, hz1, hz2⟩ := info_parts info_u8
  obtain ⟨v1, w1, hr, hown, hg, hat⟩ := run_app (P := Try.prog) (W := W) 25 o.type 5 i0 (.int .u8 0) Try.underlying25 hi hz0 (by rw [hz1]; rfl) (by rw [hz1]; decide) base _ l.length (B8s l) (by rw [hz1]; exact HO) A r.length c (B8s r) (by simp [B8s, hz1]) HR (B8s_one r) (by rw [hz2]; decide) (by rw [hz2]; omega) hbase
  rw [hz1] at hown
  obtain ⟨A1, c1, rfl, _⟩ := own_slice hown
  unfold Oper.wp execOp
  simp only [ho, resolve, invoke, builtin, Sem.run_bind, Sem.run_pure, Result.andThen_ok, List.map_toArray, List.map_cons, List.map_nil, hs, hx, hr]
  refine h A1 c1 w1 ?_ (hB.grown hg hbase (own_base HO))
  unfold OwnB
  rw [List.length_append, B8s_append]
  exact hown
set_option maxRecDepth 100000 in
theorem SumsJoin_any (w : World) (a b c : Option Addr) (ca cb cc : Nat) (l m r : List UInt8) (hl : l.length ≤ 140737488351232) (hm : m.length ≤ 140737488351232) (hr : r.length ≤ 140737488351232)
    (hca : l.length ≤ ca) (hcb : m.length ≤ cb) (hcc : r.length ≤ cc) (ra : RdB w a l) (rb : RdB w b m) (rc : RdB w c r) :
    Calls Try.prog 6 #[.slice a l.length ca, .slice b m.length cb, .slice c r.length cc] w fun e w' => e = .returned (.bool true) ∧ Below w.heap.size w w' := by
  obtain ⟨n, hn⟩ : ∃ n : Nat, n = min (min (min l.length m.length) r.length) 20000 := ⟨_, rfl⟩
  have hmin : ∀ (ts : Array TypeId) (t : TypeId) (W : World), (Builtin.min_ ts t #[.int .i64 (l.length : Int), .int .i64 (m.length : Int), .int .i64 (r.length : Int), .int .i64 20000]).run Try.prog W = .ok (.int .i64 (n : Int)) W := by
    intro ts t W
    have e : (if (20000 : Int) < (if (r.length : Int) < (if (m.length : Int) < (l.length : Int) then (m.length : Int) else (l.length : Int)) then (r.length : Int) else (if (m.length : Int) < (l.length : Int) then (m.length : Int) else (l.length : Int))) then 20000 else (if (r.length : Int) < (if (m.length : Int) < (l.length : Int) then (m.length : Int) else (l.length : Int)) then (r.length : Int) else (if (m.length : Int) < (l.length : Int) then (m.length : Int) else (l.length : Int)))) = (n : Int) := by
      rw [hn]
      split <;> split <;> (try split) <;> omega
    simp only [Builtin.min_, List.foldlM_cons, List.foldlM_nil, Builtin.min2, pure_bind, Sem.run_pure, e]
  have n1 : n ≤ l.length := by omega
  have n2 : n ≤ m.length := by omega
  have n3 : n ≤ r.length := by omega
  have n4 : n ≤ 20000 := by omega
  clear hn
  have q1 : n ≤ ca := by omega
  have q2 : n ≤ cb := by omega
  have q3 : n ≤ cc := by omega
  obtain ⟨L, hL⟩ : ∃ L, L = l.take n := ⟨_, rfl⟩
  obtain ⟨M, hM⟩ : ∃ L, L = m.take n := ⟨_, rfl⟩
  obtain ⟨R, hR⟩ : ∃ L, L = r.take n := ⟨_, rfl⟩
  have lL : n = L.length := by rw [hL, List.length_take]; omega
  have lM : n = M.length := by rw [hM, List.length_take]; omega
  have lR : n = R.length := by rw [hR, List.length_take]; omega
  have ra := ra.take n; have rb := rb.take n; have rc := rc.take n
  rw [← hL] at ra; rw [← hM] at rb; rw [← hR] at rc
  clear hL hM hR
  have LL := hid lL; have LM := hid lM; have LR := hid lR; clear lL lM lR
  have C1 := hid (crcMore_append 0 L M)
  have C2 := hid (crcMore_xor3 L M R (xorTo L M R n) n LL.out.symm LM.out.symm LR.out.symm (xorTo_length _ _ _ _) (fun k hk => xorTo_bat L M R n k hk))
  have ra0 := ra; have rb0 := rb; have rc0 := rc
  go_enter Try.func6, Try.ntmps6
  go_wp2_with fail
  go_quiet (fail)
  go_wp2_with fail
  obtain ⟨v, hv⟩ : ∃ v, v = w.drewN nq := ⟨_, rfl⟩
  have bv : Below w.heap.size w v := by rw [hv]; exact below_drewN w nq
  have vs : v.heap.size = w.heap.size := by rw [hv]; rfl
  rw [← hv]; clear hv
  have ra := ra.below bv; have rb := rb.below bv; have rc := rc.below bv
  refine (CopyBytes_any _ _ _ _ L LL.out (by rw [← LL.out]; omega) ra).mono ?_
  rintro e w1 ⟨A1, c1, rfl, h1, b1⟩
  have ra1 := ra.below b1; have rb1 := rb.below b1; have rc1 := rc.below b1
  go_wp2_with (at_builtin; refine app_bytes rfl (.tmp 28) (.tmp 29) rfl v.heap.size A1 c1 n L LL.out rfl h1 b n cb M rfl LM.out rb1 (n + n) (by rw [← LL.out, ← LM.out]) (by rw [← LL.out, ← LM.out]; omega) v b1 b1.size ?_; intro A2 c2 w2 h2 b2 _ _)
  have ra2 := ra.below b2; have rb2 := rb.below b2; have rc2 := rc.below b2
  go_wp2_with fail
  refine (Crc_any _ _ _ _ L LL.out (by rw [← LL.out]; omega) ra2).mono ?_
  rintro e w3 ⟨rfl, b3⟩
  go_wp2_with fail
  refine (more_any _ _ _ rfl (crcMore_lt _ _) _ _ _ M LM.out (by rw [← LM.out]; omega) (rb2.below b3)).mono ?_
  rw [← C1.out]
  rintro e w4 ⟨rfl, b4⟩
  have b24 := b3.trans (b4.mono b3.size)
  go_wp2_with fail
  refine (Crc_any _ _ _ _ (L ++ M) (by rw [List.length_append, ← LL.out, ← LM.out]) (by rw [List.length_append, ← LL.out, ← LM.out]; omega) (h2.rd.below b24)).mono ?_
  rintro e w5 ⟨rfl, b5⟩
  have b25 := b24.trans (b5.mono b24.size)
  go_wp2_with fail
  refine (more_any _ 0 _ rfl (by omega) _ _ _ L LL.out (by rw [← LL.out]; omega) (ra2.below b25)).mono ?_
  rintro e w6 ⟨rfl, b6⟩
  have b26 := b25.trans (b6.mono b25.size)
  go_wp2_with fail
  refine (Crc_any _ _ _ _ L LL.out (by rw [← LL.out]; omega) (ra2.below b26)).mono ?_
  rintro e w7 ⟨rfl, b7⟩
  have b27 := b26.trans (b7.mono b26.size)
  have b07 := (bv.trans (b2.mono bv.size)).trans (b27.mono (by have := b2.size; omega))
  have ra7 := ra2.below b27; have rb7 := rb2.below b27; have rc7 := rc2.below b27
  clear h1 h2 b1 b2 b3 b4 b5 b6 b7 b24 b25 b26 b27 ra1 rb1 rc1 ra2 rb2 rc2 ra rb rc bv
  go_wp2_with fail
  go_loopw [9, 10] (fun x i wr => ∃ (k : Nat) (A : Option Addr) (c' : Nat), k ≤ n ∧ i = .int .i64 k ∧ x = .slice A k c' ∧ OwnB w.heap.size wr A c' (xorTo L M R k) ∧ Below w.heap.size w wr) (fun _ i _ => n - (intOf i).toNat)
  case atStart => exact ⟨0, none, 0, by omega, rfl, rfl, OwnB.nil _ _, b07⟩
  case round =>
    obtain ⟨k, A, c', hk, rfl, rfl, hO, hbl⟩ := hrel
    by_cases hlt : k < n
    · have rak := ra0.below hbl; have rbk := rb0.below hbl; have rck := rc0.below hbl
      obtain ⟨b1, o1, rfl, hc1⟩ := rak.at_ (by intro e; have := LL.out; simp [e] at this; omega)
      obtain ⟨b2, o2, rfl, hc2⟩ := rbk.at_ (by intro e; have := LM.out; simp [e] at this; omega)
      obtain ⟨b3, o3, rfl, hc3⟩ := rck.at_ (by intro e; have := LR.out; simp [e] at this; omega)
      have k1 := hc1 k (by rw [← LL.out]; exact hlt)
      have k2 := hc2 k (by rw [← LM.out]; exact hlt)
      have k3 := hc3 k (by rw [← LR.out]; exact hlt)
      clear hc1 hc2 hc3
      have u1 := bat_lt L k; have u2 := bat_lt M k; have u3 := bat_lt R k
      have e1 := u8_xor u1 u2
      have e2 := u8_xor (a := (bat L k).toNat ^^^ (bat M k).toNat) (by exact Nat.xor_lt_two_pow (n := 8) u1 u2) u3
      have E2 := hid e2; have E1 := hid e1; clear e1 e2
      go_wp2_with fail
      go_region_law (refine step_bytes rfl (.tmp 50) (.tmp 65) rfl w.heap.size A c' k (xorTo L M R k) (xorTo_length _ _ _ _).symm rfl (hO.below (below_new _ _)) (some ⟨_, 0, none⟩) 1 1 [bat L k ^^^ bat M k ^^^ bat R k] rfl rfl (RdB.lit _ _ _ _ (by simp [B8s, B8, E1.out, E2.out]) (by simp)) (k + 1) (by rw [xorTo_length]; rfl) (by rw [xorTo_length]; simp; omega) w (below_over hbl _) (by have := hbl.size; simp; omega) ?_; intro A1 c1 w8 h8 b8)
      all_goals
        go_wp2
        go_roundw
        case rel => exact ⟨k + 1, A1, c1, by omega, by go_num, rfl, by rw [xorTo_succ]; exact h8, b8⟩
        case measure => simp [intOf]; omega
    · obtain rfl : k = n := by omega
      have rak := ra0.below hbl; have rbk := rb0.below hbl; have rck := rc0.below hbl
      have w1 := xor_lt32 (crcMore_lt 0 L) (crcMore_lt 0 M)
      have e1 := u32_xor (crcMore_lt 0 L) (crcMore_lt 0 M)
      have e2 := u32_xor w1 (crcMore_lt 0 R)
      have E1 := hid e1; have E2 := hid e2; clear e1 e2 w1
      go_wp2_with fail
      refine (Crc_any _ _ _ _ (xorTo L M R k) (xorTo_length _ _ _ _).symm (by rw [xorTo_length]; omega) hO.rd).mono ?_
      rintro e w1 ⟨rfl, b1⟩
      go_wp2_with fail
      refine (Crc_any _ _ _ _ L LL.out (by rw [← LL.out]; omega) (rak.below b1)).mono ?_
      rintro e w2 ⟨rfl, b2⟩
      have b12 := b1.trans (b2.mono b1.size)
      go_wp2_with fail
      refine (Crc_any _ _ _ _ M LM.out (by rw [← LM.out]; omega) (rbk.below b12)).mono ?_
      rintro e w3 ⟨rfl, b3⟩
      have b13 := b12.trans (b3.mono b12.size)
      go_wp2_with fail
      refine (Crc_any _ _ _ _ R LR.out (by rw [← LR.out]; omega) (rck.below b13)).mono ?_
      rintro e w4 ⟨rfl, b4⟩
      have b14 := b13.trans (b4.mono b13.size)
      have F : bits .xor .u32 (bits .xor .u32 (crcMore 0 L : Int) (crcMore 0 M : Int)) (crcMore 0 R : Int) = (crcMore 0 (xorTo L M R k) : Int) := by rw [E1.out, E2.out, C2.out]
      go_wp2_with fail
      refine (awake02_any _).mono ?_
      rintro e w5 ⟨rfl, b5⟩
      have b15 := b14.trans (b5.mono b14.size)
      go_wp2
      go_ret
      exact ⟨rfl, hbl.trans (b15.mono hbl.size)⟩
end Go.Proofs.Ytohileppckhgeaa
