/- Texts joined: Inos, Frame2. -/
import Derived.Deep.Fields
import Derived.Lib.SmallJoins
import Derived.Test.YtahlhdhljjpeoaaGBitsInodes1
import Derived.Test.YtahlhdhljjpeoaaGBitsInodes5
import Derived.Test.YtahlhdhljjpeoaaGBitsInodes21
/- BitsInodes (printed by gen24p.py). -/
namespace Go.Proofs.Ytahlhdhljjpeoaa
open Go.RowKit
set_option maxHeartbeats 3200000
set_option maxRecDepth 100000
set_option linter.unusedVariables false
set_option linter.unusedSimpArgs false

def SetPost (base : Nat) (w : World) (P : Nat) (S : Nat → Prop) (E : Int) (d' : Pl) (e : Ending) (w' : World) : Prop := e = .returned (.int .i64 E) ∧ TurnP QT base w P S w' d'
def GetPost (base : Nat) (w : World) (P : Nat) (S : Nat → Prop) (d : Pl) (x : Ind) (e : Ending) (w' : World) : Prop :=
  (∃ A c, e = .returned (.tuple #[x.val A c, .int .i64 0]) ∧ OwnX w.heap.size w' A c x.dir) ∧ IsPl QT base w' P S d ∧ Kpt S w w'
theorem get_any {d : Pl} {k : Nat} (n : Dn d 64 k) (i : Int) (hi : -9223372036854775808 ≤ i ∧ i ≤ 9223372036854775807) (x : Ind) (h1 : whE d L64 i = 0) (h2 : whD d L64 i = d) (h3 : gotInd (inPart d L64 i) = x) (h4 : gerrInd (inPart d L64 i) = 0)
    (base : Nat) (W : World) (P : Nat) (S : Nat → Prop) (hW : IsPl QT base W P S d) : Calls Try.prog 24 #[spV P, L64.val, .int .i64 i] W (GetPost base W P S d x) := by
  have := Inode_yes W P hW (by have := n.left; omega) L64 i hi h1
  rw [h2, h3, h4] at this
  exact this
theorem Inodes_any (w : World) (one two : Int) (h1 : -9223372036854775808 ≤ one ∧ one ≤ 9223372036854775807) (h2 : -9223372036854775808 ≤ two ∧ two ≤ 9223372036854775807) (x y : Ind) (xa ya : Option Addr) (xc yc : Nat) (hix : x.in_) (hiy : y.in_) (hrx : RdX w xa x.dir) (hry : RdX w ya y.dir) :
    Calls Try.prog 8 #[.int .i64 one, .int .i64 two, x.val xa xc, y.val ya yc] w fun e w' => e = .returned (.bool true) ∧ Below w.heap.size w w' := by
  have AW := fun W => awake24_any W
  have SPC := fun W => space_any W 64 (by omega) (by omega)
  simp only [show ((64 : Nat) : Int) = 64 from rfl, ofL64, L64, Lay.val] at SPC
  have PK1 := fun (W : World) => Pick_any W one 256 h1 (by omega) (by omega)
  have PK2 := fun (W : World) => Pick_any W two 256 h2 (by omega) (by omega)
  simp only [show ((256 : Nat) : Int) = 256 from rfl] at PK1 PK2
  -- what the calls answer, for any two places
  have CX := fun (p : Nat) (d' : Pl) (E : Int) (hE : seiP (spD 64) L64 ((1 + p : Nat) : Int) x = (d', E)) (hp : p < 256) (W : World) (P : Nat) (S : Nat → Prop) (base : Nat) (hW : IsPl QT base W P S (spD 64)) (hr : RdX W xa x.dir) =>
    show Calls Try.prog 26 #[spV P, L64.val, .int .i64 ((1 + p : Nat) : Int), x.val xa xc] W (SetPost base W P S E d') from by
      have := SetInode_is W P hW dn64.left (Nat.le_trans dn64.did (by decide)) L64 dn64.bl ((1 + p : Nat) : Int) (by omega) x xa xc hix hr
      rw [hE] at this
      exact this
  have CY := fun (q : Nat) (d d' : Pl) (k : Nat) (n : Dn d 64 k) (hk : k ≤ 1000) (E : Int) (hE : seiP d L64 ((1 + q : Nat) : Int) y = (d', E)) (hq : q < 256) (W : World) (P : Nat) (S : Nat → Prop) (base : Nat) (hW : IsPl QT base W P S d) (hr : RdX W ya y.dir) =>
    show Calls Try.prog 26 #[spV P, L64.val, .int .i64 ((1 + q : Nat) : Int), y.val ya yc] W (SetPost base W P S E d') from by
      have := SetInode_is W P hW n.left (Nat.le_trans n.did (by omega)) L64 n.bl ((1 + q : Nat) : Int) (by omega) y ya yc hiy hr
      rw [hE] at this
      exact this
  have hlx : x.dir.length ≤ 7000000000000 := hix.2.2.2.2.1
  have hly : y.dir.length ≤ 7000000000000 := hiy.2.2.2.2.1
  have SX := fun (W : World) (A : Option Addr) (c : Nat) (ha : RdX W A x.dir) (hb : RdX W xa x.dir) => SameInode_any W x x A xa c xc hlx ha hb
  have SY := fun (W : World) (A : Option Addr) (c : Nat) (ha : RdX W A y.dir) (hb : RdX W ya y.dir) => SameInode_any W y y A ya c yc hly ha hb
  simp only [decide_true] at SX SY
  have PLN := fun (p q : Nat) (hp : p < 256) (hq : q < 256) (hpq : p ≠ q) (hx : okInd x = true) (hy : okInd y = true) => inodes_plain p q hp hq hpq x y hx hy
  have GX := fun (d : Pl) (k : Nat) (n : Dn d 64 k) (p : Nat) (hp : p < 256) (g : whE d L64 ((1 + p : Nat) : Int) = 0 ∧ whD d L64 ((1 + p : Nat) : Int) = d ∧ gotInd (inPart d L64 ((1 + p : Nat) : Int)) = x ∧ gerrInd (inPart d L64 ((1 + p : Nat) : Int)) = 0) => get_any n ((1 + p : Nat) : Int) (by omega) x g.1 g.2.1 g.2.2.1 g.2.2.2
  have GY := fun (d : Pl) (k : Nat) (n : Dn d 64 k) (q : Nat) (hq : q < 256) (g : whE d L64 ((1 + q : Nat) : Int) = 0 ∧ whD d L64 ((1 + q : Nat) : Int) = d ∧ gotInd (inPart d L64 ((1 + q : Nat) : Int)) = y ∧ gerrInd (inPart d L64 ((1 + q : Nat) : Int)) = 0) => get_any n ((1 + q : Nat) : Int) (by omega) y g.1 g.2.1 g.2.2.1 g.2.2.2
  have NOX := fun (p : Nat) (hx : okInd x = false) => sei_no (d := spD 64) (l := L64) L64_right ((1 + p : Nat) : Int) hx
  have NOY := fun (q : Nat) (d : Pl) (hy : okInd y = false) => sei_no (d := d) (l := L64) L64_right ((1 + q : Nat) : Int) hy
  have YES := fun (p : Nat) (hp : p < 256) (hx : okInd x = true) => sp64.sei dn64 p hp x hx
  have HAW := hid AW; have HCX := hid CX; have HCY := hid CY; have HSX := hid SX; have HSY := hid SY; have HPLN := hid PLN; have HGX := hid GX; have HGY := hid GY; have HNOX := hid NOX; have HNOY := hid NOY; have HYES := hid YES; have HRX := hid hrx; have HRY := hid hry
  clear AW CX CY SX SY PLN GX GY NOX NOY YES hrx hry hix hiy hlx hly
  obtain ⟨okx, hokx⟩ : ∃ b, b = okInd x := ⟨_, rfl⟩
  obtain ⟨oky, hoky⟩ : ∃ b, b = okInd y := ⟨_, rfl⟩
  have HOX := hid hokx; have HOY := hid hoky
  clear hokx hoky
  obtain ⟨xk, xl, xs, xn, dirx⟩ := x
  obtain ⟨yk, yl, ys, yn, diry⟩ := y
  unfold SetPost at HCX HCY
  unfold GetPost at HGX HGY
  simp only [spV, Lay.val, Ind.val, indCells, L64] at HCX HCY HSX HSY HGX HGY HRX HRY ⊢
  have hzX : (w.alloc (.cells #[.int .u8 (xk : Int), .int .i64 xl, .int .i64 xs, .slice xa dirx.length xc, .int .i64 xn] 54)).heap.size = w.heap.size + 1 := by simp
  have rX := (Below.heap_alloc (w.alloc (.cells #[.int .u8 (xk : Int), .int .i64 xl, .int .i64 xs, .slice xa dirx.length xc, .int .i64 xn] 54)) (.cells #[.int .u8 (yk : Int), .int .i64 yl, .int .i64 ys, .slice ya diry.length yc, .int .i64 yn] 54) w.heap.size (by simp)).trans (heap_alloc_new w (.cells #[.int .u8 (xk : Int), .int .i64 xl, .int .i64 xs, .slice xa dirx.length xc, .int .i64 xn] 54))
  have rY := heap_alloc_new (w.alloc (.cells #[.int .u8 (xk : Int), .int .i64 xl, .int .i64 xs, .slice xa dirx.length xc, .int .i64 xn] 54)) (.cells #[.int .u8 (yk : Int), .int .i64 yl, .int .i64 ys, .slice ya diry.length yc, .int .i64 yn] 54)
  rw [hzX] at rY
  have bA : Below w.heap.size w ((w.alloc (.cells #[.int .u8 (xk : Int), .int .i64 xl, .int .i64 xs, .slice xa dirx.length xc, .int .i64 xn] 54)).alloc (.cells #[.int .u8 (yk : Int), .int .i64 yl, .int .i64 ys, .slice ya diry.length yc, .int .i64 yn] 54)) := ((Below.refl _ _).alloc (Nat.le_refl _) _).alloc (by simp) _
  obtain ⟨wA, hwA⟩ : ∃ wA, wA = (w.alloc (.cells #[.int .u8 (xk : Int), .int .i64 xl, .int .i64 xs, .slice xa dirx.length xc, .int .i64 xn] 54)).alloc (.cells #[.int .u8 (yk : Int), .int .i64 yl, .int .i64 ys, .slice ya diry.length yc, .int .i64 yn] 54) := ⟨_, rfl⟩
  rw [← hwA] at rX rY bA
  have SPC := SPC wA
  have hzA : wA.heap.size = w.heap.size + 2 := by rw [hwA]; simp
  have HWA := hid hwA; have RXA := hid rX; have RYA := hid rY; have HBA := hid bA; have HZA := hid hzA
  rw [hwA] at SPC
  clear hwA rX rY bA hzX hzA
  go_enter Try.func8, Try.ntmps8
  go_wp2_with fail
  refine SPC.mono ?_
  rw [← HWA.out]
  rintro e v0 ⟨P, S0, rfl, i, b⟩
  clear SPC
  have bL : Below v0.heap.size v0 (v0.alloc (.cells #[.int .i64 64, .int .i64 2, .int .i64 16, .int .i64 18, .int .i64 19, .int .i64 4, .int .i64 23] 39)) := (Below.refl _ _).alloc (Nat.le_refl _) _
  have rL := heap_alloc_new v0 (.cells #[.int .i64 64, .int .i64 2, .int .i64 16, .int .i64 18, .int .i64 19, .int .i64 4, .int .i64 23] 39)
  obtain ⟨w0, hw0⟩ : ∃ w0, w0 = v0.alloc (.cells #[.int .i64 64, .int .i64 2, .int .i64 16, .int .i64 18, .int .i64 19, .int .i64 4, .int .i64 23] 39) := ⟨_, rfl⟩
  have bA0 := b.trans (bL.mono b.size)
  have I0 := hid (i.below bL)
  rw [← hw0] at I0 bA0 rL bL
  have B0 := hid bA0; have L0 := hid rL
  have X0 := hid ((bA0.block _ (heap_in RXA.out)).trans RXA.out); have Y0 := hid ((bA0.block _ (heap_in RYA.out)).trans RYA.out)
  have HW0 := hid hw0
  have PK1 := PK1 w0
  have PK2 := PK2 w0
  rw [hw0] at PK1 PK2
  clear i b bL rL bA0 hw0
  go_wp2_with fail
  refine PK1.mono ?_
  rw [← HW0.out]
  rintro e w' ⟨⟨p, hp, rfl⟩, rfl⟩
  rw [← HW0.out] at PK2
  clear PK1
  have HW0' := HW0
  go_wp2_with fail
  refine PK2.mono ?_
  rintro e w' ⟨⟨q, hq, rfl⟩, rfl⟩
  clear PK2
  have hcp : ((1 + p : Nat) : Int) = 1 + (p : Int) := by push_cast; rfl
  have hcq : ((1 + q : Nat) : Int) = 1 + (q : Int) := by push_cast; rfl
  by_cases hpq : p = q
  · as_aux_lemma =>
    subst hpq
    have he : ((1 + (p : Int)) == (1 + (p : Int))) = true := by simp
    have AW := HAW.out w0
    go_wp2_with fail
    refine AW.mono ?_
    rintro e w' ⟨rfl, b'⟩
    have HB := hid ((HBA.out.trans (B0.out.mono HBA.out.size)).trans (b'.mono (HBA.out.trans (B0.out.mono HBA.out.size)).size))
    clear AW b'
    go_wp2
    go_ret
    exact ⟨rfl, HB.out⟩
  have he : ((1 + (p : Int)) == (1 + (q : Int))) = false := by simp; omega
  have hbw : ∀ wk, Below wA.heap.size wA wk → Below w.heap.size w wk := fun wk b => HBA.out.trans (b.mono HBA.out.size)
  have HBW := hid hbw; have HCP := hid hcp; have HCQ := hid hcq
  clear hbw hcp hcq HW0 HW0'
  cases okx with
  | false => as_aux_lemma =>
    have C := HCX.out p (spD 64) 2 (HNOX.out p HOX.out.symm) hp w0 P S0 _ I0.out (HRX.out.below (HBW.out _ B0.out))
    rw [HCP.out] at C
    obtain ⟨y0, y1, y2, y3, y4, y5, y6⟩ := cells7b L0.out
    obtain ⟨x0, x1, x2, x3, x4⟩ := five5 X0.out
    have AW := HAW.out
    go_wp2_with fail
    refine C.mono ?_
    rintro e w1 ⟨rfl, S1, i, kk, hs⟩
    have B1 := hid (below_kptS I0.out B0.out kk)
    have AW := AW w1
    clear C i kk hs y0 y1 y2 y3 y4 y5 y6 x0 x1 x2 x3 x4
    go_wp2_with fail
    refine AW.mono ?_
    rintro e w' ⟨rfl, b'⟩
    have HB := hid ((HBW.out _ B1.out).trans (b'.mono (HBW.out _ B1.out).size))
    clear AW b'
    go_wp2
    go_ret
    exact ⟨rfl, HB.out⟩
  | true => as_aux_lemma =>
    cases oky with
    | false => as_aux_lemma =>
      obtain ⟨d1, e1, n1, _⟩ := HYES.out p hp HOX.out.symm
      have C := HCX.out p d1 0 e1 hp w0 P S0 _ I0.out (HRX.out.below (HBW.out _ B0.out))
      have HN1 := hid n1
      clear e1 n1
      rw [HCP.out] at C
      obtain ⟨y0, y1, y2, y3, y4, y5, y6⟩ := cells7b L0.out
      obtain ⟨x0, x1, x2, x3, x4⟩ := five5 X0.out
      go_wp2_with fail
      refine C.mono ?_
      rintro e w1 ⟨rfl, S1, i, kk, hs⟩
      clear C y0 y1 y2 y3 y4 y5 y6 x0 x1 x2 x3 x4
      have B1 := hid (below_kptS I0.out B0.out kk); have L1 := hid (row_kptS I0.out L0.out kk (by decide) (by decide) (by decide)); have Y1 := hid (row_kptS I0.out Y0.out kk (by decide) (by decide) (by decide)); have I1 := hid i
      have C := HCY.out q d1 d1 6 HN1.out (by omega) 2 (HNOY.out q d1 HOY.out.symm) hq w1 P S1 _ I1.out (HRY.out.below (HBW.out _ B1.out))
      rw [HCQ.out] at C
      obtain ⟨y0, y1, y2, y3, y4, y5, y6⟩ := cells7b L1.out
      obtain ⟨x0, x1, x2, x3, x4⟩ := five5 Y1.out
      clear i kk hs
      go_wp2_with fail
      refine C.mono ?_
      rintro e w2 ⟨rfl, S2, i, kk, hs⟩
      have B2 := hid (below_kptS I1.out B1.out kk)
      have AW := HAW.out w2
      clear C i kk hs y0 y1 y2 y3 y4 y5 y6 x0 x1 x2 x3 x4
      go_wp2_with fail
      refine AW.mono ?_
      rintro e w' ⟨rfl, b'⟩
      have HB := hid ((HBW.out _ B2.out).trans (b'.mono (HBW.out _ B2.out).size))
      clear AW b'
      go_wp2
      go_ret
      exact ⟨rfl, HB.out⟩
    | true => as_aux_lemma =>
      obtain ⟨d1, d2, d3, s, e1, n1, e2, n2, g1, g2, e3, n3, g3, hs2, hs3, hs4⟩ := HPLN.out p q hp hq hpq HOX.out.symm HOY.out.symm
      unfold twoT at hs3 hs4
      dsimp only at hs3 hs4
      have hns : ((s + 1 : Nat) : Int) = 1 + (s : Int) := by omega
      have hin : iX.in_ := ⟨by decide, by decide, by decide, by decide, by decide, fun k hk => absurd hk (Nat.not_lt_zero k)⟩
      have C4 := fun (base : Nat) (W : World) (P : Nat) (S : Nat → Prop) (hW : IsPl QT base W P S d2) => NewInode_is W P hW n2.left (Nat.le_trans n2.did (by decide)) L64 n2.bl iX none 0 hin (RdX.nil _ _)
      simp only [e3] at C4
      simp only [hns, spV, Lay.val, L64, iX, Ind.val, indCells, List.length_nil] at C4
      have C5 := get_any n3 ((1 + s : Nat) : Int) (by omega) iX g3.1 g3.2.1 g3.2.2.1 g3.2.2.2
      unfold GetPost at C5
      simp only [show ((1 + s : Nat) : Int) = 1 + (s : Int) by push_cast; rfl, spV, Lay.val, L64, iX, Ind.val, indCells, List.length_nil] at C5
      have C1 := HCX.out p d1 0 e1 hp w0 P S0 _ I0.out (HRX.out.below (HBW.out _ B0.out))
      have C2 := HCY.out q d1 d2 6 n1 (by omega) 0 e2 hq
      have C3 := HGX.out d2 7 n2 p hp g1
      have C3y := HGY.out d2 7 n2 q hq g2
      rw [HCP.out] at C1 C3
      rw [HCQ.out] at C2 C3y
      have HC1 := hid C1; have HC2 := hid C2; have HC3 := hid C3; have HC3Y := hid C3y; have HC4 := hid C4; have HC5 := hid C5; have HS3 := hid hs3; have HS4 := hid hs4
      clear C1 C2 C3 C3y C4 C5 e1 n1 e2 n2 g1 g2 e3 n3 g3 hs3 hs4 hns hin HCX HCY HGX HGY HPLN HNOX HNOY HYES
      obtain ⟨y0, y1, y2, y3, y4, y5, y6⟩ := cells7b L0.out
      obtain ⟨x0, x1, x2, x3, x4⟩ := five5 X0.out
      have CC := HC1.out
      go_wp2_with fail
      refine CC.mono ?_
      rintro e w1 ⟨rfl, S1, i, kk, hs⟩
      have L1 := hid (row_kptS I0.out L0.out kk (by decide) (by decide) (by decide))
      have X1 := hid (row_kptS I0.out X0.out kk (by decide) (by decide) (by decide))
      have Y1 := hid (row_kptS I0.out Y0.out kk (by decide) (by decide) (by decide))
      have B1 := hid (below_kptS I0.out B0.out kk)
      have I1 := hid i
      clear i kk hs CC HC1 y0 y1 y2 y3 y4 y5 y6 x0 x1 x2 x3 x4 I0 B0 L0 X0 Y0
      obtain ⟨y0, y1, y2, y3, y4, y5, y6⟩ := cells7b L1.out
      obtain ⟨x0, x1, x2, x3, x4⟩ := five5 Y1.out
      have CC := HC2.out w1 P S1 _ I1.out (HRY.out.below (HBW.out _ B1.out))
      go_wp2_with fail
      refine CC.mono ?_
      rintro e w2 ⟨rfl, S2, i, kk, hs⟩
      have L2 := hid (row_kptS I1.out L1.out kk (by decide) (by decide) (by decide))
      have X2 := hid (row_kptS I1.out X1.out kk (by decide) (by decide) (by decide))
      have Y2 := hid (row_kptS I1.out Y1.out kk (by decide) (by decide) (by decide))
      have B2 := hid (below_kptS I1.out B1.out kk)
      have I2 := hid i
      clear i kk hs CC HC2 y0 y1 y2 y3 y4 y5 y6 x0 x1 x2 x3 x4 I1 B1 L1 X1 Y1
      obtain ⟨y0, y1, y2, y3, y4, y5, y6⟩ := cells7b L2.out
      have CC := HC3.out _ w2 P S2 I2.out
      go_wp2_with fail
      refine CC.mono ?_
      rintro e w3 ⟨⟨A1, cA1, rfl, ho⟩, i, kk⟩
      have D3 := hid ho
      have L3 := hid (row_kptS I2.out L2.out kk (by decide) (by decide) (by decide))
      have X3 := hid (row_kptS I2.out X2.out kk (by decide) (by decide) (by decide))
      have Y3 := hid (row_kptS I2.out Y2.out kk (by decide) (by decide) (by decide))
      have B3 := hid (below_kptS I2.out B2.out kk)
      have I3 := hid i
      clear i kk CC ho y0 y1 y2 y3 y4 y5 y6 I2 B2 L2 X2 Y2
      obtain ⟨w4, hw4⟩ : ∃ w4, w4 = w3.alloc (.cells #[.int .u8 (xk : Int), .int .i64 xl, .int .i64 xs, .slice A1 dirx.length cA1, .int .i64 xn] 54) := ⟨_, rfl⟩
      have ba : Below w3.heap.size w3 w4 := by rw [hw4]; exact (Below.refl _ _).alloc (Nat.le_refl _) _
      have A4 := hid (show w4.heap[w3.heap.size]? = some (.cells #[.int .u8 (xk : Int), .int .i64 xl, .int .i64 xs, .slice A1 dirx.length cA1, .int .i64 xn] 54 (0, 0)) by rw [hw4]; exact heap_alloc_new w3 _)
      have L4 := hid ((ba.block _ (heap_in L3.out)).trans L3.out)
      have X4 := hid ((ba.block _ (heap_in X3.out)).trans X3.out)
      have Y4 := hid ((ba.block _ (heap_in Y3.out)).trans Y3.out)
      have D4 := hid (D3.out.below ba)
      have B4 := hid (B3.out.trans (ba.mono B3.out.size))
      have I4 := hid (I3.out.below ba)
      clear ba I3 B3 L3 X3 Y3 D3
      have HW4 := hid hw4
      obtain ⟨y0, y1, y2, y3, y4, y5, y6⟩ := cells7b L4.out
      have CC := HC3Y.out _ w4 P S2 I4.out
      rw [hw4] at CC y0 y1 y2 y3 y4 y5 y6
      clear hw4
      go_wp2_with fail
      refine CC.mono ?_
      rw [← HW4.out]
      rintro e w5 ⟨⟨A2, cA2, rfl, ho⟩, i, kk⟩
      have E5 := hid ho
      have L5 := hid (row_kptS I4.out L4.out kk (by decide) (by decide) (by decide))
      have X5 := hid (row_kptS I4.out X4.out kk (by decide) (by decide) (by decide))
      have Y5 := hid (row_kptS I4.out Y4.out kk (by decide) (by decide) (by decide))
      have D5 := hid (D4.out.kptS I4.out kk)
      have A5 := hid (row_kptS I4.out A4.out kk (by decide) (by decide) (by decide))
      have B5 := hid (below_kptS I4.out B4.out kk)
      have I5 := hid i
      clear i kk CC ho HW4 y0 y1 y2 y3 y4 y5 y6 I4 B4 L4 X4 Y4 D4 A4
      obtain ⟨w6, hw6⟩ : ∃ w6, w6 = w5.alloc (.cells #[.int .u8 (yk : Int), .int .i64 yl, .int .i64 ys, .slice A2 diry.length cA2, .int .i64 yn] 54) := ⟨_, rfl⟩
      have ba : Below w5.heap.size w5 w6 := by rw [hw6]; exact (Below.refl _ _).alloc (Nat.le_refl _) _
      have Bb6 := hid (show w6.heap[w5.heap.size]? = some (.cells #[.int .u8 (yk : Int), .int .i64 yl, .int .i64 ys, .slice A2 diry.length cA2, .int .i64 yn] 54 (0, 0)) by rw [hw6]; exact heap_alloc_new w5 _)
      have L6 := hid ((ba.block _ (heap_in L5.out)).trans L5.out)
      have X6 := hid ((ba.block _ (heap_in X5.out)).trans X5.out)
      have Y6 := hid ((ba.block _ (heap_in Y5.out)).trans Y5.out)
      have D6 := hid (D5.out.below ba)
      have A6 := hid ((ba.block _ (heap_in A5.out)).trans A5.out)
      have E6 := hid (E5.out.below ba)
      have B6 := hid (B5.out.trans (ba.mono B5.out.size))
      have I6 := hid (I5.out.below ba)
      clear ba I5 B5 L5 X5 Y5 D5 A5 E5
      have HW6 := hid hw6
      obtain ⟨y0, y1, y2, y3, y4, y5, y6⟩ := cells7b L6.out
      have CC := HC4.out _ w6 P S2 I6.out
      rw [hw6] at CC y0 y1 y2 y3 y4 y5 y6
      clear hw6
      go_wp2_with fail
      refine CC.mono ?_
      rw [← HW6.out]
      rintro e w7 ⟨rfl, S3, i, kk, hs⟩
      have L7 := hid (row_kptS I6.out L6.out kk (by decide) (by decide) (by decide))
      have X7 := hid (row_kptS I6.out X6.out kk (by decide) (by decide) (by decide))
      have Y7 := hid (row_kptS I6.out Y6.out kk (by decide) (by decide) (by decide))
      have D7 := hid (D6.out.kptS I6.out kk)
      have A7 := hid (row_kptS I6.out A6.out kk (by decide) (by decide) (by decide))
      have E7 := hid (E6.out.kptS I6.out kk)
      have Bb7 := hid (row_kptS I6.out Bb6.out kk (by decide) (by decide) (by decide))
      have B7 := hid (below_kptS I6.out B6.out kk)
      have I7 := hid i
      clear i kk hs CC HW6 y0 y1 y2 y3 y4 y5 y6 I6 B6 L6 X6 Y6 D6 A6 E6 Bb6
      obtain ⟨x0, x1, x2, x3, x4⟩ := five5 X7.out
      obtain ⟨z0, z1, z2, z3, z4⟩ := five5 Y7.out
      go_wp2_with fail
      go_loopw [18] (fun v wr => ∃ t : Nat, t ≤ s ∧ v = .int .i64 (1 + (t : Int)) ∧ w7 = wr) (fun v _ => 10 - (intOf v).toNat)
      case atStart => exact ⟨0, Nat.zero_le _, rfl, rfl⟩
      case round => as_aux_lemma =>
        obtain ⟨t, ht, rfl, rfl⟩ := hrel
        by_cases hts : t < s
        · as_aux_lemma =>
          rcases HS3.out t hts with ⟨htp, hxk⟩ | ⟨htq, hyk⟩
          · have e1 : ((1 + (t : Int)) == (1 + (p : Int))) = true := by simp; omega
            have kx : ((xk : Int) != 0) = true := by simpa using hxk
            clear htp hxk
            go_wp2_with fail
            go_roundw
            case rel => exact ⟨t + 1, by omega, by first | (go_num; done) | (go_num; omega), by first | rfl | trivial⟩
            case measure => simp [intOf]; omega
          · have e1 : ((1 + (t : Int)) == (1 + (p : Int))) = false := by simp; omega
            have e2 : ((1 + (t : Int)) == (1 + (q : Int))) = true := by simp; omega
            have ky : ((yk : Int) != 0) = true := by simpa using hyk
            clear htq hyk
            go_wp2_with fail
            go_roundw
            case rel => exact ⟨t + 1, by omega, by first | (go_num; done) | (go_num; omega), by first | rfl | trivial⟩
            case measure => simp [intOf]; omega
        · as_aux_lemma =>
          obtain rfl : t = s := by omega
          have hs4 := HS4.out
          by_cases htp : t = p
          · have hxk : xk = 0 := by
              by_cases e : xk = 0
              · exact e
              · exact absurd (.inl ⟨htp, e⟩) hs4
            have e1 : ((1 + (t : Int)) == (1 + (p : Int))) = true := by simp; omega
            have e2 : ((1 + (t : Int)) == (1 + (q : Int))) = false := by simp; omega
            have kx : ((xk : Int) != 0) = false := by simp [hxk]
            clear htp hxk hts hs4
            obtain ⟨y0, y1, y2, y3, y4, y5, y6⟩ := cells7b L7.out
            have CC := HC5.out _ w7 P S3 I7.out
            skip
            go_wp2_with fail
            refine CC.mono ?_
            rintro e w8 ⟨⟨A3, c3, rfl, ho⟩, i, kk⟩
            have L8 := hid (row_kptS I7.out L7.out kk (by decide) (by decide) (by decide))
            have X8 := hid (row_kptS I7.out X7.out kk (by decide) (by decide) (by decide))
            have Y8 := hid (row_kptS I7.out Y7.out kk (by decide) (by decide) (by decide))
            have D8 := hid (D7.out.kptS I7.out kk)
            have A8 := hid (row_kptS I7.out A7.out kk (by decide) (by decide) (by decide))
            have E8 := hid (E7.out.kptS I7.out kk)
            have Bb8 := hid (row_kptS I7.out Bb7.out kk (by decide) (by decide) (by decide))
            have B8 := hid (below_kptS I7.out B7.out kk)
            have I8 := hid i
            clear i kk CC ho y0 y1 y2 y3 y4 y5 y6 x0 x1 x2 x3 x4 z0 z1 z2 z3 z4 I7 B7 L7 X7 Y7 D7 A7 E7 Bb7
            obtain ⟨w9, hw9⟩ : ∃ w9, w9 = w8.alloc (.cells #[.int .u8 1, .int .i64 7, .int .i64 0, .slice A3 0 c3, .int .i64 0] 54) := ⟨_, rfl⟩
            have ba : Below w8.heap.size w8 w9 := by rw [hw9]; exact (Below.refl _ _).alloc (Nat.le_refl _) _
            have Cc9 := hid (show w9.heap[w8.heap.size]? = some (.cells #[.int .u8 1, .int .i64 7, .int .i64 0, .slice A3 0 c3, .int .i64 0] 54 (0, 0)) by rw [hw9]; exact heap_alloc_new w8 _)
            have L9 := hid ((ba.block _ (heap_in L8.out)).trans L8.out)
            have X9 := hid ((ba.block _ (heap_in X8.out)).trans X8.out)
            have Y9 := hid ((ba.block _ (heap_in Y8.out)).trans Y8.out)
            have D9 := hid (D8.out.below ba)
            have A9 := hid ((ba.block _ (heap_in A8.out)).trans A8.out)
            have E9 := hid (E8.out.below ba)
            have Bb9 := hid ((ba.block _ (heap_in Bb8.out)).trans Bb8.out)
            have B9 := hid (B8.out.trans (ba.mono B8.out.size))
            have I9 := hid (I8.out.below ba)
            clear ba I8 B8 L8 X8 Y8 D8 A8 E8 Bb8
            have HW9 := hid hw9
            have SA := HSX.out w9 A1 cA1 D9.out.rd (HRX.out.below (HBW.out _ B9.out))
            have SB := HSY.out
            obtain ⟨x0, x1, x2, x3, x4⟩ := five5 X9.out
            obtain ⟨m0, m1, m2, m3, m4⟩ := five5 A9.out
            obtain ⟨g0, g1, g2, g3, g4⟩ := five5 Cc9.out
            rw [hw9] at SA x0 x1 x2 x3 x4 m0 m1 m2 m3 m4 g0 g1 g2 g3 g4
            clear hw9
            go_wp2_with fail
            refine SA.mono ?_
            rw [← HW9.out]
            rintro e w10 ⟨rfl, b⟩
            clear SA x0 x1 x2 x3 x4 m0 m1 m2 m3 m4 g0 g1 g2 g3 g4
            have L10 := hid ((b.block _ (heap_in L9.out)).trans L9.out)
            have X10 := hid ((b.block _ (heap_in X9.out)).trans X9.out)
            have Y10 := hid ((b.block _ (heap_in Y9.out)).trans Y9.out)
            have D10 := hid (D9.out.below b)
            have A10 := hid ((b.block _ (heap_in A9.out)).trans A9.out)
            have E10 := hid (E9.out.below b)
            have Bb10 := hid ((b.block _ (heap_in Bb9.out)).trans Bb9.out)
            have Cc10 := hid ((b.block _ (heap_in Cc9.out)).trans Cc9.out)
            have B10 := hid (B9.out.trans (b.mono B9.out.size))
            clear b B9 L9 X9 Y9 D9 A9 E9 Bb9 Cc9
            have SB := SB w10 A2 cA2 E10.out.rd (HRY.out.below (HBW.out _ B10.out))
            obtain ⟨x0, x1, x2, x3, x4⟩ := five5 Y10.out
            obtain ⟨m0, m1, m2, m3, m4⟩ := five5 Bb10.out
            obtain ⟨g0, g1, g2, g3, g4⟩ := five5 Cc10.out
            go_wp2_with fail
            refine SB.mono ?_
            rintro e w11 ⟨rfl, b⟩
            clear SB x0 x1 x2 x3 x4 m0 m1 m2 m3 m4 g0 g1 g2 g3 g4
            have L11 := hid ((b.block _ (heap_in L10.out)).trans L10.out)
            have X11 := hid ((b.block _ (heap_in X10.out)).trans X10.out)
            have Y11 := hid ((b.block _ (heap_in Y10.out)).trans Y10.out)
            have D11 := hid (D10.out.below b)
            have A11 := hid ((b.block _ (heap_in A10.out)).trans A10.out)
            have E11 := hid (E10.out.below b)
            have Bb11 := hid ((b.block _ (heap_in Bb10.out)).trans Bb10.out)
            have Cc11 := hid ((b.block _ (heap_in Cc10.out)).trans Cc10.out)
            have B11 := hid (B10.out.trans (b.mono B10.out.size))
            clear b B10 L10 X10 Y10 D10 A10 E10 Bb10 Cc10
            obtain ⟨g0, g1, g2, g3, g4⟩ := five5 Cc11.out
            have AW := HAW.out w11
            have hss : ((1 + (t : Int)) == (1 + (t : Int))) = true := by simp
            go_wp2_with fail
            refine AW.mono ?_
            rintro e w12 ⟨rfl, b⟩
            have HBF := hid ((HBW.out _ B11.out).trans (b.mono (HBW.out _ B11.out).size))
            clear AW b g0 g1 g2 g3 g4
            go_wp2
            go_ret
            exact ⟨rfl, HBF.out⟩
          · by_cases htq : t = q
            · have hyk : yk = 0 := by
                by_cases e : yk = 0
                · exact e
                · exact absurd (.inr ⟨htq, e⟩) hs4
              have e1 : ((1 + (t : Int)) == (1 + (p : Int))) = false := by simp; omega
              have e2 : ((1 + (t : Int)) == (1 + (q : Int))) = true := by simp; omega
              have ky : ((yk : Int) != 0) = false := by simp [hyk]
              clear htp htq hyk hts hs4
              obtain ⟨y0, y1, y2, y3, y4, y5, y6⟩ := cells7b L7.out
              have CC := HC5.out _ w7 P S3 I7.out
              skip
              go_wp2_with fail
              refine CC.mono ?_
              rintro e w8 ⟨⟨A3, c3, rfl, ho⟩, i, kk⟩
              have L8 := hid (row_kptS I7.out L7.out kk (by decide) (by decide) (by decide))
              have X8 := hid (row_kptS I7.out X7.out kk (by decide) (by decide) (by decide))
              have Y8 := hid (row_kptS I7.out Y7.out kk (by decide) (by decide) (by decide))
              have D8 := hid (D7.out.kptS I7.out kk)
              have A8 := hid (row_kptS I7.out A7.out kk (by decide) (by decide) (by decide))
              have E8 := hid (E7.out.kptS I7.out kk)
              have Bb8 := hid (row_kptS I7.out Bb7.out kk (by decide) (by decide) (by decide))
              have B8 := hid (below_kptS I7.out B7.out kk)
              have I8 := hid i
              clear i kk CC ho y0 y1 y2 y3 y4 y5 y6 x0 x1 x2 x3 x4 z0 z1 z2 z3 z4 I7 B7 L7 X7 Y7 D7 A7 E7 Bb7
              obtain ⟨w9, hw9⟩ : ∃ w9, w9 = w8.alloc (.cells #[.int .u8 1, .int .i64 7, .int .i64 0, .slice A3 0 c3, .int .i64 0] 54) := ⟨_, rfl⟩
              have ba : Below w8.heap.size w8 w9 := by rw [hw9]; exact (Below.refl _ _).alloc (Nat.le_refl _) _
              have Cc9 := hid (show w9.heap[w8.heap.size]? = some (.cells #[.int .u8 1, .int .i64 7, .int .i64 0, .slice A3 0 c3, .int .i64 0] 54 (0, 0)) by rw [hw9]; exact heap_alloc_new w8 _)
              have L9 := hid ((ba.block _ (heap_in L8.out)).trans L8.out)
              have X9 := hid ((ba.block _ (heap_in X8.out)).trans X8.out)
              have Y9 := hid ((ba.block _ (heap_in Y8.out)).trans Y8.out)
              have D9 := hid (D8.out.below ba)
              have A9 := hid ((ba.block _ (heap_in A8.out)).trans A8.out)
              have E9 := hid (E8.out.below ba)
              have Bb9 := hid ((ba.block _ (heap_in Bb8.out)).trans Bb8.out)
              have B9 := hid (B8.out.trans (ba.mono B8.out.size))
              have I9 := hid (I8.out.below ba)
              clear ba I8 B8 L8 X8 Y8 D8 A8 E8 Bb8
              have HW9 := hid hw9
              have SA := HSX.out w9 A1 cA1 D9.out.rd (HRX.out.below (HBW.out _ B9.out))
              have SB := HSY.out
              obtain ⟨x0, x1, x2, x3, x4⟩ := five5 X9.out
              obtain ⟨m0, m1, m2, m3, m4⟩ := five5 A9.out
              obtain ⟨g0, g1, g2, g3, g4⟩ := five5 Cc9.out
              rw [hw9] at SA x0 x1 x2 x3 x4 m0 m1 m2 m3 m4 g0 g1 g2 g3 g4
              clear hw9
              go_wp2_with fail
              refine SA.mono ?_
              rw [← HW9.out]
              rintro e w10 ⟨rfl, b⟩
              clear SA x0 x1 x2 x3 x4 m0 m1 m2 m3 m4 g0 g1 g2 g3 g4
              have L10 := hid ((b.block _ (heap_in L9.out)).trans L9.out)
              have X10 := hid ((b.block _ (heap_in X9.out)).trans X9.out)
              have Y10 := hid ((b.block _ (heap_in Y9.out)).trans Y9.out)
              have D10 := hid (D9.out.below b)
              have A10 := hid ((b.block _ (heap_in A9.out)).trans A9.out)
              have E10 := hid (E9.out.below b)
              have Bb10 := hid ((b.block _ (heap_in Bb9.out)).trans Bb9.out)
              have Cc10 := hid ((b.block _ (heap_in Cc9.out)).trans Cc9.out)
              have B10 := hid (B9.out.trans (b.mono B9.out.size))
              clear b B9 L9 X9 Y9 D9 A9 E9 Bb9 Cc9
              have SB := SB w10 A2 cA2 E10.out.rd (HRY.out.below (HBW.out _ B10.out))
              obtain ⟨x0, x1, x2, x3, x4⟩ := five5 Y10.out
              obtain ⟨m0, m1, m2, m3, m4⟩ := five5 Bb10.out
              obtain ⟨g0, g1, g2, g3, g4⟩ := five5 Cc10.out
              go_wp2_with fail
              refine SB.mono ?_
              rintro e w11 ⟨rfl, b⟩
              clear SB x0 x1 x2 x3 x4 m0 m1 m2 m3 m4 g0 g1 g2 g3 g4
              have L11 := hid ((b.block _ (heap_in L10.out)).trans L10.out)
              have X11 := hid ((b.block _ (heap_in X10.out)).trans X10.out)
              have Y11 := hid ((b.block _ (heap_in Y10.out)).trans Y10.out)
              have D11 := hid (D10.out.below b)
              have A11 := hid ((b.block _ (heap_in A10.out)).trans A10.out)
              have E11 := hid (E10.out.below b)
              have Bb11 := hid ((b.block _ (heap_in Bb10.out)).trans Bb10.out)
              have Cc11 := hid ((b.block _ (heap_in Cc10.out)).trans Cc10.out)
              have B11 := hid (B10.out.trans (b.mono B10.out.size))
              clear b B10 L10 X10 Y10 D10 A10 E10 Bb10 Cc10
              obtain ⟨g0, g1, g2, g3, g4⟩ := five5 Cc11.out
              have AW := HAW.out w11
              have hss : ((1 + (t : Int)) == (1 + (t : Int))) = true := by simp
              go_wp2_with fail
              refine AW.mono ?_
              rintro e w12 ⟨rfl, b⟩
              have HBF := hid ((HBW.out _ B11.out).trans (b.mono (HBW.out _ B11.out).size))
              clear AW b g0 g1 g2 g3 g4
              go_wp2
              go_ret
              exact ⟨rfl, HBF.out⟩
            · skip
              have e1 : ((1 + (t : Int)) == (1 + (p : Int))) = false := by simp; omega
              have e2 : ((1 + (t : Int)) == (1 + (q : Int))) = false := by simp; omega
              clear htp htq hts hs4
              obtain ⟨y0, y1, y2, y3, y4, y5, y6⟩ := cells7b L7.out
              have CC := HC5.out _ w7 P S3 I7.out
              skip
              go_wp2_with fail
              refine CC.mono ?_
              rintro e w8 ⟨⟨A3, c3, rfl, ho⟩, i, kk⟩
              have L8 := hid (row_kptS I7.out L7.out kk (by decide) (by decide) (by decide))
              have X8 := hid (row_kptS I7.out X7.out kk (by decide) (by decide) (by decide))
              have Y8 := hid (row_kptS I7.out Y7.out kk (by decide) (by decide) (by decide))
              have D8 := hid (D7.out.kptS I7.out kk)
              have A8 := hid (row_kptS I7.out A7.out kk (by decide) (by decide) (by decide))
              have E8 := hid (E7.out.kptS I7.out kk)
              have Bb8 := hid (row_kptS I7.out Bb7.out kk (by decide) (by decide) (by decide))
              have B8 := hid (below_kptS I7.out B7.out kk)
              have I8 := hid i
              clear i kk CC ho y0 y1 y2 y3 y4 y5 y6 x0 x1 x2 x3 x4 z0 z1 z2 z3 z4 I7 B7 L7 X7 Y7 D7 A7 E7 Bb7
              obtain ⟨w9, hw9⟩ : ∃ w9, w9 = w8.alloc (.cells #[.int .u8 1, .int .i64 7, .int .i64 0, .slice A3 0 c3, .int .i64 0] 54) := ⟨_, rfl⟩
              have ba : Below w8.heap.size w8 w9 := by rw [hw9]; exact (Below.refl _ _).alloc (Nat.le_refl _) _
              have Cc9 := hid (show w9.heap[w8.heap.size]? = some (.cells #[.int .u8 1, .int .i64 7, .int .i64 0, .slice A3 0 c3, .int .i64 0] 54 (0, 0)) by rw [hw9]; exact heap_alloc_new w8 _)
              have L9 := hid ((ba.block _ (heap_in L8.out)).trans L8.out)
              have X9 := hid ((ba.block _ (heap_in X8.out)).trans X8.out)
              have Y9 := hid ((ba.block _ (heap_in Y8.out)).trans Y8.out)
              have D9 := hid (D8.out.below ba)
              have A9 := hid ((ba.block _ (heap_in A8.out)).trans A8.out)
              have E9 := hid (E8.out.below ba)
              have Bb9 := hid ((ba.block _ (heap_in Bb8.out)).trans Bb8.out)
              have B9 := hid (B8.out.trans (ba.mono B8.out.size))
              have I9 := hid (I8.out.below ba)
              clear ba I8 B8 L8 X8 Y8 D8 A8 E8 Bb8
              have HW9 := hid hw9
              have SA := HSX.out w9 A1 cA1 D9.out.rd (HRX.out.below (HBW.out _ B9.out))
              have SB := HSY.out
              obtain ⟨x0, x1, x2, x3, x4⟩ := five5 X9.out
              obtain ⟨m0, m1, m2, m3, m4⟩ := five5 A9.out
              obtain ⟨g0, g1, g2, g3, g4⟩ := five5 Cc9.out
              rw [hw9] at SA x0 x1 x2 x3 x4 m0 m1 m2 m3 m4 g0 g1 g2 g3 g4
              clear hw9
              go_wp2_with fail
              refine SA.mono ?_
              rw [← HW9.out]
              rintro e w10 ⟨rfl, b⟩
              clear SA x0 x1 x2 x3 x4 m0 m1 m2 m3 m4 g0 g1 g2 g3 g4
              have L10 := hid ((b.block _ (heap_in L9.out)).trans L9.out)
              have X10 := hid ((b.block _ (heap_in X9.out)).trans X9.out)
              have Y10 := hid ((b.block _ (heap_in Y9.out)).trans Y9.out)
              have D10 := hid (D9.out.below b)
              have A10 := hid ((b.block _ (heap_in A9.out)).trans A9.out)
              have E10 := hid (E9.out.below b)
              have Bb10 := hid ((b.block _ (heap_in Bb9.out)).trans Bb9.out)
              have Cc10 := hid ((b.block _ (heap_in Cc9.out)).trans Cc9.out)
              have B10 := hid (B9.out.trans (b.mono B9.out.size))
              clear b B9 L9 X9 Y9 D9 A9 E9 Bb9 Cc9
              have SB := SB w10 A2 cA2 E10.out.rd (HRY.out.below (HBW.out _ B10.out))
              obtain ⟨x0, x1, x2, x3, x4⟩ := five5 Y10.out
              obtain ⟨m0, m1, m2, m3, m4⟩ := five5 Bb10.out
              obtain ⟨g0, g1, g2, g3, g4⟩ := five5 Cc10.out
              go_wp2_with fail
              refine SB.mono ?_
              rintro e w11 ⟨rfl, b⟩
              clear SB x0 x1 x2 x3 x4 m0 m1 m2 m3 m4 g0 g1 g2 g3 g4
              have L11 := hid ((b.block _ (heap_in L10.out)).trans L10.out)
              have X11 := hid ((b.block _ (heap_in X10.out)).trans X10.out)
              have Y11 := hid ((b.block _ (heap_in Y10.out)).trans Y10.out)
              have D11 := hid (D10.out.below b)
              have A11 := hid ((b.block _ (heap_in A10.out)).trans A10.out)
              have E11 := hid (E10.out.below b)
              have Bb11 := hid ((b.block _ (heap_in Bb10.out)).trans Bb10.out)
              have Cc11 := hid ((b.block _ (heap_in Cc10.out)).trans Cc10.out)
              have B11 := hid (B10.out.trans (b.mono B10.out.size))
              clear b B10 L10 X10 Y10 D10 A10 E10 Bb10 Cc10
              obtain ⟨g0, g1, g2, g3, g4⟩ := five5 Cc11.out
              have AW := HAW.out w11
              have hss : ((1 + (t : Int)) == (1 + (t : Int))) = true := by simp
              go_wp2_with fail
              refine AW.mono ?_
              rintro e w12 ⟨rfl, b⟩
              have HBF := hid ((HBW.out _ B11.out).trans (b.mono (HBW.out _ B11.out).size))
              clear AW b g0 g1 g2 g3 g4
              go_wp2
              go_ret
              exact ⟨rfl, HBF.out⟩
end Go.Proofs.Ytahlhdhljjpeoaa

/- How structs of numbers that came in are opened, and shut, for the rows. -/
namespace Go.Proofs.Ytahlhdhljjpeoaa
open Go.ChangeShapes Go.WideShapes Go.ChangeAt Go.RowKit Go.Deep
set_option linter.unusedVariables false
section
variable {H : Type} {enc : TypeId × Value → H} {P : Program} {w : World} {base : Nat} {spare : Nat → Bool} {held : Bool}
def numOf : Value → Int
  | .int _ n => n
  | _ => 0
def in63 (n : Int) : Prop := -9223372036854775808 ≤ n ∧ n ≤ 9223372036854775807
theorem wf63 {n : Int} : (Lit.int .i64 n).wf = true ↔ in63 n := by
  have h1 : IntKind.i64.min = -9223372036854775808 := rfl
  have h2 : IntKind.i64.max = 9223372036854775807 := rfl
  simp [Lit.wf, in63, h1, h2]
/-- A struct of ints: what it reads as. -/
theorem trod_iagg {t T : TypeId} {fs : Array Field} {fuel : Nat} {cs : List Value} {x : DataW H × List MemPlace} (hs : P.underlying t = some (.struct fs)) (hone : oneCellFields P fs = true) (hC : P.cellsOf t = fs.size)
    (hk : fs.all (fun f => f.type == T) = true) (hT : P.underlying T = some (.int .i64)) (h : DataW.trod enc P w base spare held fuel t cs = some x) :
    ∃ ns : List Int, cs = ns.map (Value.int .i64) ∧ ns.length = fs.size ∧ x = (.agg (ns.map fun n => .lit (.int .i64 n)), []) ∧ ∀ n ∈ ns, in63 n := by
  obtain ⟨xs, n, _, rfl, hl, hlen, hf⟩ := DataW.trod_struct hs h
  have key : ∀ i (hi : i < fs.size), ∃ m : Int, cs[i]? = some (.int .i64 m) ∧ xs[i]? = some (.lit (.int .i64 m), []) ∧ in63 m := by
    intro i hi
    have hfi : fs[i]? = some fs[i] := Array.getElem?_eq_getElem hi
    obtain ⟨ho, hc⟩ := hone_of hone i _ hfi
    have ht : fs[i].type = T := by
      have := Array.all_eq_true.1 hk i hi
      simpa using this
    have h1 := hf i _ hfi
    have hci : i < cs.length := by omega
    rw [ho, hc, ht, show (cs.drop i).take 1 = [cs[i]] by rw [List.drop_eq_getElem_cons hci]; rfl] at h1
    have hxi : xs[i]? = some xs[i] := List.getElem?_eq_getElem (by omega)
    rw [hxi] at h1
    obtain ⟨m, e1, e2, e3⟩ := DataW.trod_int hT h1
    refine ⟨m, ?_, ?_, wf63.1 e3⟩
    · rw [List.getElem?_eq_getElem hci]; simpa using e1
    · rw [hxi, e2]
  refine ⟨cs.map numOf, ?_, by rw [List.length_map]; omega, ?_, ?_⟩
  · apply List.ext_getElem?
    intro i
    rcases Nat.lt_or_ge i fs.size with hi | hi
    · obtain ⟨m, e1, _, _⟩ := key i hi
      simp [e1, numOf]
    · rw [List.getElem?_eq_none (by omega), List.getElem?_eq_none (by simp; omega)]
  · have hx : xs = (cs.map numOf).map fun n => (.lit (.int .i64 n), []) := by
      apply List.ext_getElem?
      intro i
      rcases Nat.lt_or_ge i fs.size with hi | hi
      · obtain ⟨m, e1, e2, _⟩ := key i hi
        simp [e1, e2, numOf]
      · rw [List.getElem?_eq_none (by omega), List.getElem?_eq_none (by simp; omega)]
    rw [hx]
    refine Prod.ext ?_ ?_
    · simp [Function.comp_def]
    · simp
  · intro n hn
    obtain ⟨v, hv, rfl⟩ := List.mem_map.1 hn
    obtain ⟨i, hi, rfl⟩ := List.getElem_of_mem hv
    obtain ⟨m, e1, _, e3⟩ := key i (by omega)
    rw [List.getElem?_eq_getElem hi] at e1
    rw [Option.some.inj e1]
    exact e3
theorem mapM_all {α β : Type} {f : α → Option β} {g : α → β} : ∀ {l : List α}, (∀ a ∈ l, f a = some (g a)) → l.mapM f = some (l.map g)
  | [], _ => rfl
  | a :: l, h => by
    rw [List.mapM_cons, h a (by simp), mapM_all (fun b hb => h b (by simp [hb]))]
    rfl
theorem trod_iagg_mk {t T : TypeId} {fs : Array Field} {ns : List Int} (hs : P.underlying t = some (.struct fs)) (hone : oneCellFields P fs = true) (hC : P.cellsOf t = fs.size)
    (hk : fs.all (fun f => f.type == T) = true) (hT : P.underlying T = some (.int .i64)) (hl : ns.length = fs.size) (hn : ∀ n ∈ ns, in63 n) :
    DataW.trod enc P w base spare held 2 t (ns.map (Value.int .i64)) = some (.agg (ns.map fun n => .lit (.int .i64 n)), []) := by
  have hm : fs.toList.mapM (fun f => DataW.trod enc P w base spare held 1 f.type (((ns.map (Value.int .i64)).drop f.offset).take (P.cellsOf f.type))) = some (fs.toList.map fun f => (.lit (.int .i64 (ns.getD f.offset 0)), [])) := by
    refine mapM_all fun f hf => ?_
    obtain ⟨i, hi, rfl⟩ := List.getElem_of_mem hf
    rw [Array.length_toList] at hi
    rw [Array.getElem_toList]
    have hfi : fs[i]? = some fs[i] := Array.getElem?_eq_getElem hi
    obtain ⟨ho, hc⟩ := hone_of hone i _ hfi
    have ht : fs[i].type = T := by
      have := Array.all_eq_true.1 hk i hi
      simpa using this
    rw [ho, hc, ht, List.drop_eq_getElem_cons (by simp; omega)]
    have hw := wf63.2 (hn ns[i] (List.getElem_mem _))
    simp [DataW.trod, hT, hw, List.getD_eq_getElem?_getD, List.getElem?_eq_getElem (show i < ns.length by omega)]
  have := trod_struct_mk (enc := enc) (w := w) (base := base) (spare := spare) (held := held) hs (by rw [List.length_map]; omega) hm
  rw [this]
  congr 1
  refine Prod.ext ?_ ?_
  · simp only [List.map_map, Function.comp_def]
    congr 1
    apply List.ext_getElem?
    intro i
    rcases Nat.lt_or_ge i fs.size with hi | hi
    · have hfi : fs[i]? = some fs[i] := Array.getElem?_eq_getElem hi
      obtain ⟨ho, hc⟩ := hone_of hone i _ hfi
      simp [hfi, ho, List.getD_eq_getElem?_getD, List.getElem?_eq_getElem (show i < ns.length by omega)]
    · rw [List.getElem?_eq_none (by simp; omega), List.getElem?_eq_none (by simp; omega)]
  · simp
/-- A struct of ints that came in: opened, and shut in whatever memory. -/
theorem open_iagg {r : Reach} {b0 : Nat} {t T : TypeId} {fs : Array Field} {v : Value} {d : DataW H} {ps : List MemPlace} (hs : P.underlying t = some (.struct fs)) (hone : oneCellFields P fs = true) (hC : P.cellsOf t = fs.size)
    (hk : fs.all (fun f => f.type == T) = true) (hT : P.underlying T = some (.int .i64)) (hv : Value.okWide P w r b0 t v) (h : DataW.Trod enc P w base spare held t v d ps) :
    ∃ ns : List Int, v = .agg (ns.map (Value.int .i64)).toArray ∧ ns.length = fs.size ∧ ps = [] ∧ (∀ n ∈ ns, in63 n) ∧ ∀ (w' : World) (base' : Nat) (spare' : Nat → Bool) (held' : Bool), DataW.Trod enc P w' base' spare' held' t v d [] := by
  obtain ⟨cs, rfl, hsz⟩ := okWide_struct hs hv
  obtain ⟨fuel, hf⟩ := h
  obtain ⟨ns, e1, e2, e3, e4⟩ := trod_iagg hs hone hC hk hT hf
  have e1' : cs = (ns.map (Value.int .i64)).toArray := by
    apply Array.ext'
    simpa [Value.cells] using e1
  obtain ⟨rfl, rfl⟩ := Prod.mk.inj e3
  refine ⟨ns, by rw [e1'], e2, rfl, e4, fun w' base' spare' held' => ⟨2, ?_⟩⟩
  rw [e1']
  simpa [Value.cells] using trod_iagg_mk (enc := enc) (w := w') (base := base') (spare := spare') (held := held') hs hone hC hk hT e2 e4
end
end Go.Proofs.Ytahlhdhljjpeoaa
