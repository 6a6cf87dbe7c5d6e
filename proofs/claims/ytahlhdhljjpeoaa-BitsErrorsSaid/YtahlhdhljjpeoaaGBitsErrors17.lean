/- Texts joined: BtP. -/
import Derived.Test.YtahlhdhljjpeoaaGBitsErrors16
/- bits.NewInode (printed by gen24k.py). -/
namespace Go.Proofs.Ytahlhdhljjpeoaa
open Go.RowKit
set_option maxHeartbeats 3200000
set_option maxRecDepth 100000
set_option linter.unusedVariables false
set_option linter.unusedSimpArgs false

/-- An inode's bytes in a block. -/
def slotB (b : List UInt8) (j : Nat) : List UInt8 := (b.drop (j * 64)).take 64
/-- The first inode that is unused, of m from j on. -/
def scanB (b : List UInt8) : Nat → Nat → Nat × Int
  | 0, j => (j, 0)
  | m + 1, j => if gerrInd (slotB b j) = 0 then if (gotInd (slotB b j)).k = 0 then (j, 0) else scanB b m (j + 1) else (j, gerrInd (slotB b j))
def newGo (own : List UInt8) (ino : Nat) : Nat → Nat → Pl → Pl × Int × Int
  | 0, _, d => (d, 0, 231)
  | m + 1, k, d => if d.spent = true then (d.tick, 0, 4) else
      if (scanB (d.b.getD (ino + k) []) 64 0).2 = 0 then
        if (scanB (d.b.getD (ino + k) []) 64 0).1 < 64 then
          if d.tick.spent = true then (d.tick.tick, 0, 4) else (d.tick.tick.put (ino + k) (splice (d.b.getD (ino + k) []) ((scanB (d.b.getD (ino + k) []) 64 0).1 * 64) own), ((k * 64 + (scanB (d.b.getD (ino + k) []) 64 0).1 + 1 : Nat) : Int), 0)
        else newGo own ino m (k + 1) d.tick
      else (d.tick, 0, (scanB (d.b.getD (ino + k) []) 64 0).2)
def niOk (x : Ind) : Bool := okInd x && decide (x.k ≠ 0)
def newP (d : Pl) (l : Lay) (x : Ind) : Pl × Int × Int := if rightL l = true then if niOk x = true then newGo (putInd x) l.ino.toNat l.ib.toNat 0 d else (d, 0, 2) else (d, 0, 2)
theorem slotB_length (b : List UInt8) (j : Nat) (hb : b.length = 4096) (hj : j < 64) : (slotB b j).length = 64 := by simp [slotB, hb]; omega
theorem NewInode_wrong {base : Nat} (w : World) (P : Nat) {S : Nat → Prop} {d : Pl} (h : IsPl QT base w P S d) (l : Lay) (hR : rightL l = false) (x : Ind) (xa : Option Addr) (xc : Nat) :
    Calls Try.prog 25 #[spV P, l.val, x.val xa xc] w fun e w' => e = .returned (.tuple #[.int .i64 0, .int .i64 2]) ∧ TurnP QT base w P S w' d := by
  have WR := fun w => bitsWrong_any w P l
  have hw : wrgE l = 2 := by simp [wrgE, hR]
  simp only [hw] at WR
  have H := hid h
  clear h hw hR
  obtain ⟨b0, b1, b2, b3, b4, b5, b6⟩ := l
  obtain ⟨xk, xl, xs, xn, dir⟩ := x
  simp only [Lay.val, spV, Ind.val, indCells] at WR ⊢
  have hb2 : Below w.heap.size w ((w.alloc (.cells #[.int .i64 b0, .int .i64 b1, .int .i64 b2, .int .i64 b3, .int .i64 b4, .int .i64 b5, .int .i64 b6] 39)).alloc (.cells #[.int .u8 (xk : Int), .int .i64 xl, .int .i64 xs, .slice xa dir.length xc, .int .i64 xn] 54)) := ((Below.refl _ _).alloc (Nat.le_refl _) _).alloc (by simp) _
  have HB2 := hid hb2
  clear hb2
  go_enter Try.func25, Try.ntmps25
  go_wp2_with fail
  refine (WR _).mono ?_
  rintro e w1 ⟨rfl, b1'⟩
  have HB := hid (HB2.out.trans (b1'.mono HB2.out.size))
  clear WR b1'
  go_wp2
  refine bodyPost_ret (v := .tuple #[.int .i64 0, .int .i64 2]) (by simp [results, Try.results25, go_sem]) rfl ⟨rfl, H.out.still HB.out⟩
theorem NewInode_no {base : Nat} (w : World) (P : Nat) {S : Nat → Prop} {d : Pl} (h : IsPl QT base w P S d) (l : Lay) (hR : rightL l = true) (x : Ind) (xa : Option Addr) (xc : Nat) (hi : x.in_) (hr : RdX w xa x.dir) (hok : niOk x = false) :
    Calls Try.prog 25 #[spV P, l.val, x.val xa xc] w fun e w' => e = .returned (.tuple #[.int .i64 0, .int .i64 2]) ∧ TurnP QT base w P S w' d := by
  have WR := fun w => bitsWrong_any w P l
  have hw : wrgE l = 0 := by simp [wrgE, hR]
  simp only [hw] at WR
  have PI := fun (W : World) (hrW : RdX W xa x.dir) => PutInode_any W x xa xc hi hrW
  obtain ⟨E, hE⟩ : ∃ E, E = errInd x := ⟨_, rfl⟩
  obtain ⟨N, hN⟩ : ∃ N, N = (putInd x).length := ⟨_, rfl⟩
  have hEk : (E = 2) ∨ (E = 0 ∧ x.k = 0) := by
    rw [hE]
    unfold errInd
    unfold niOk at hok
    cases ho : okInd x with
    | false => exact .inl rfl
    | true =>
      rw [ho] at hok
      refine .inr ⟨rfl, ?_⟩
      simpa using hok
  simp only [← hE, ← hN] at PI
  have H := hid h; have HRX := hid hr; have HPI := hid PI; have HEK := hid hEk
  clear h hw hR hi hr hok hE PI hEk hN
  obtain ⟨b0, b1, b2, b3, b4, b5, b6⟩ := l
  obtain ⟨xk, xl, xs, xn, dir⟩ := x
  simp only [Lay.val, spV, Ind.val, indCells] at WR HPI HRX HEK ⊢
  have hz : (w.alloc (.cells #[.int .i64 b0, .int .i64 b1, .int .i64 b2, .int .i64 b3, .int .i64 b4, .int .i64 b5, .int .i64 b6] 39)).heap.size = w.heap.size + 1 := by simp
  have hrI := heap_alloc_new (w.alloc (.cells #[.int .i64 b0, .int .i64 b1, .int .i64 b2, .int .i64 b3, .int .i64 b4, .int .i64 b5, .int .i64 b6] 39)) (.cells #[.int .u8 (xk : Int), .int .i64 xl, .int .i64 xs, .slice xa dir.length xc, .int .i64 xn] 54)
  rw [hz] at hrI
  have hb2 : Below w.heap.size w ((w.alloc (.cells #[.int .i64 b0, .int .i64 b1, .int .i64 b2, .int .i64 b3, .int .i64 b4, .int .i64 b5, .int .i64 b6] 39)).alloc (.cells #[.int .u8 (xk : Int), .int .i64 xl, .int .i64 xs, .slice xa dir.length xc, .int .i64 xn] 54)) := ((Below.refl _ _).alloc (Nat.le_refl _) _).alloc (by simp) _
  have HB2 := hid hb2; have HRI := hid hrI
  clear hb2 hz hrI
  go_enter Try.func25, Try.ntmps25
  go_wp2_with fail
  refine (WR _).mono ?_
  rintro e w1 ⟨rfl, b1'⟩
  have hb := HB2.out.trans (b1'.mono HB2.out.size)
  have hri1 := (b1'.block _ (heap_in HRI.out)).trans HRI.out
  obtain ⟨y0, y1, y2, y3, y4⟩ := five5 hri1
  have PI := HPI.out w1 (HRX.out.below hb)
  have HB := hid hb; have HRI1 := hid hri1
  clear WR b1' hb HPI hri1
  go_wp2_with fail
  refine PI.mono ?_
  rintro e w2 ⟨A, c', rfl, ho, b2'⟩
  have HB3 := hid (HB.out.trans (b2'.mono HB.out.size))
  clear PI ho y0 y1 y2 y3 y4
  obtain ⟨y0, y1, y2, y3, y4⟩ := five5 ((b2'.block _ (heap_in HRI1.out)).trans HRI1.out)
  clear b2'
  rcases HEK.out with rfl | ⟨rfl, rfl⟩
  · go_wp2
    refine bodyPost_ret (v := .tuple #[.int .i64 0, .int .i64 2]) (by simp [results, Try.results25, go_sem]) rfl ⟨rfl, H.out.still HB3.out⟩
  · go_wp2
    refine bodyPost_ret (v := .tuple #[.int .i64 0, .int .i64 2]) (by simp [results, Try.results25, go_sem]) rfl ⟨rfl, H.out.still HB3.out⟩
theorem NewInode_yes {base : Nat} (w : World) (P : Nat) {S : Nat → Prop} {d : Pl} (h : IsPl QT base w P S d) (hl : -10000000 ≤ d.left) (hd : d.did ≤ 100000) (l : Lay) (hbl : l.bl = (d.b.length : Int)) (hR : rightL l = true) (x : Ind) (xa : Option Addr) (xc : Nat) (hi : x.in_) (hr : RdX w xa x.dir) (hok : niOk x = true) :
    Calls Try.prog 25 #[spV P, l.val, x.val xa xc] w fun e w' => e = .returned (.tuple #[.int .i64 (newP d l x).2.1, .int .i64 (newP d l x).2.2]) ∧ TurnP QT base w P S w' (newP d l x).1 := by
  have WR := fun w => bitsWrong_any w P l
  have hw : wrgE l = 0 := by simp [wrgE, hR]
  simp only [hw] at WR
  have hok1 : okInd x = true := by unfold niOk at hok; simp only [Bool.and_eq_true] at hok; exact hok.1
  have hk0 : x.k ≠ 0 := by unfold niOk at hok; simp only [Bool.and_eq_true, decide_eq_true_eq] at hok; exact hok.2
  have hk0I : ((x.k : Int) == 0) = false := by simpa using hk0
  have PI := fun (W : World) (hrW : RdX W xa x.dir) => PutInode_any W x xa xc hi hrW
  have hE : errInd x = 0 := by simp [errInd, hok1]
  have hPl := putInd_length hok1
  obtain ⟨ob, hob⟩ : ∃ ob, ob = putInd x := ⟨_, rfl⟩
  simp only [hE, hPl] at PI
  simp only [← hob] at PI hPl
  have hin := right_in hR
  obtain ⟨R, hRe⟩ : ∃ R, R = newP d l x := ⟨_, rfl⟩
  have hFP : R = newGo ob l.ino.toNat l.ib.toNat 0 d := by
    rw [hRe, hob]
    simp only [newP, hR, hok, if_true]
  rw [← hRe]
  obtain ⟨N, hN⟩ : ∃ N : Nat, N = d.b.length := ⟨_, rfl⟩
  rw [← hN] at hbl
  obtain ⟨ino, hino⟩ : ∃ n : Nat, l.ino = (n : Int) := ⟨l.ino.toNat, by omega⟩
  obtain ⟨ib, hib⟩ : ∃ n : Nat, l.ib = (n : Int) := ⟨l.ib.toNat, by omega⟩
  have hinoN : ino + ib ≤ N := by omega
  have hN5 : N ≤ 512 := by omega
  rw [hino, hib, Int.toNat_natCast, Int.toNat_natCast] at hFP
  have h4096 : ∀ k, k < N → (d.b.getD k []).length = 4096 := fun k hk => by
    rw [List.getD_eq_getElem?_getD, List.getElem?_eq_getElem (by omega)]
    exact h.ok.b4 _ (List.getElem_mem (by omega))
  have H := hid h; have HRX := hid hr; have HPI := hid PI; have HFP := hid hFP; have HPL := hid hPl; have HN := hid hN; have H4 := hid h4096
  clear h hw hR hi hr hok hE PI hob hRe hFP hin hPl hbl hN hok1 hk0 h4096
  obtain ⟨b0, b1, b2, b3, b4, b5, b6⟩ := l
  obtain ⟨xk, xl, xs, xn, dir⟩ := x
  simp only [Lay.val, spV, Ind.val, indCells] at WR HPI HRX hino hib hk0I ⊢
  subst hino hib
  have hz : (w.alloc (.cells #[.int .i64 b0, .int .i64 b1, .int .i64 b2, .int .i64 b3, .int .i64 (ino : Int), .int .i64 (ib : Int), .int .i64 b6] 39)).heap.size = w.heap.size + 1 := by simp
  have hrI := heap_alloc_new (w.alloc (.cells #[.int .i64 b0, .int .i64 b1, .int .i64 b2, .int .i64 b3, .int .i64 (ino : Int), .int .i64 (ib : Int), .int .i64 b6] 39)) (.cells #[.int .u8 (xk : Int), .int .i64 xl, .int .i64 xs, .slice xa dir.length xc, .int .i64 xn] 54)
  rw [hz] at hrI
  have hrL := (Below.heap_alloc (w.alloc (.cells #[.int .i64 b0, .int .i64 b1, .int .i64 b2, .int .i64 b3, .int .i64 (ino : Int), .int .i64 (ib : Int), .int .i64 b6] 39)) (.cells #[.int .u8 (xk : Int), .int .i64 xl, .int .i64 xs, .slice xa dir.length xc, .int .i64 xn] 54) w.heap.size (by simp)).trans (heap_alloc_new w (.cells #[.int .i64 b0, .int .i64 b1, .int .i64 b2, .int .i64 b3, .int .i64 (ino : Int), .int .i64 (ib : Int), .int .i64 b6] 39))
  have hb2 : Below w.heap.size w ((w.alloc (.cells #[.int .i64 b0, .int .i64 b1, .int .i64 b2, .int .i64 b3, .int .i64 (ino : Int), .int .i64 (ib : Int), .int .i64 b6] 39)).alloc (.cells #[.int .u8 (xk : Int), .int .i64 xl, .int .i64 xs, .slice xa dir.length xc, .int .i64 xn] 54)) := ((Below.refl _ _).alloc (Nat.le_refl _) _).alloc (by simp) _
  have HB2 := hid hb2; have HRI := hid hrI; have HRL := hid hrL
  clear hb2 hz hrI hrL
  go_enter Try.func25, Try.ntmps25
  go_wp2_with fail
  refine (WR _).mono ?_
  rintro e w1 ⟨rfl, b1'⟩
  have hb := HB2.out.trans (b1'.mono HB2.out.size)
  have hri1 := (b1'.block _ (heap_in HRI.out)).trans HRI.out
  obtain ⟨y0, y1, y2, y3, y4⟩ := five5 hri1
  have hrl1 := (b1'.block _ (heap_in HRL.out)).trans HRL.out
  have PI := HPI.out w1 (HRX.out.below hb)
  have HB := hid hb; have HRL1 := hid hrl1; have HRI1 := hid hri1
  clear WR b1' hb HPI hrl1 hri1
  go_wp2_with fail
  refine PI.mono ?_
  rintro e w2 ⟨A, c', rfl, ho, b2'⟩
  clear y0 y1 y2 y3 y4
  obtain ⟨y0, y1, y2, y3, y4⟩ := five5 ((b2'.block _ (heap_in HRI1.out)).trans HRI1.out)
  have hb3 := HB.out.trans (b2'.mono HB.out.size)
  have hrl2 := (b2'.block _ (heap_in HRL1.out)).trans HRL1.out
  obtain ⟨z0, z1, z2, z3, z4, z5, z6⟩ := cells7b hrl2
  have hi2 := (H.out.below hb3).lower
  have HI2 := hid hi2; have HB3 := hid hb3; have HO := hid ho; have HRL2 := hid hrl2
  have hzb := HB.out.size
  have hzw : w.heap.size < w1.heap.size := heap_in HRL1.out
  have hz2 := b2'.size
  have hS : ∀ b, S b → b < w.heap.size := fun b hb => (H.out.blocks hb).2.1
  have HS := hid hS
  clear PI b2' ho hb3 hi2 hrl2 hS
  go_wp2_with fail
  go_loopw [38] (fun i wr => ∃ (k : Nat) (dk : Pl), k ≤ ib ∧ i = .int .i64 ((k : Nat) : Int) ∧ newGo ob ino (ib - k) k dk = R ∧ IsPl (fun b => b < w2.heap.size) base wr P S dk ∧ Kpt S w2 wr ∧ dk.b = d.b ∧ dk.did = d.did ∧ d.left - k ≤ dk.left) (fun i _ => ib - (intOf i).toNat)
  case atStart => exact ⟨0, d, Nat.zero_le _, rfl, HFP.out.symm, HI2.out, Kpt.refl _ _, rfl, rfl, by omega⟩
  case round => as_aux_lemma =>
    obtain ⟨wo, rfl⟩ : ∃ wo : World, wo = wr := ⟨_, rfl⟩
    obtain ⟨k, dk, hk, rfl, hgo, hik, hkk, hdb, hdd, hdl⟩ := hrel
    clear y0 y1 y2 y3 y4 z0 z1 z2 z3 z4 z5 z6
    have hrl := (hkk.block _ (heap_in HRL2.out) (fun e => by have := HS.out _ e; omega)).trans HRL2.out
    obtain ⟨z0, z1, z2, z3, z4, z5, z6⟩ := cells7b hrl
    have hzo := hkk.size
    by_cases hlt : k < ib
    · as_aux_lemma =>
      have ID := inodes_is wo P hik (by omega) ((ino : Int) + (k : Int)) (by omega)
      have hwr : IntKind.i64.wrap ((ino : Int) + (k : Int)) = (ino : Int) + (k : Int) := IntWalk.i64_in _ (by omega)
      have hNk : ino + k < N := by omega
      have hinb : dk.inB ((ino : Int) + (k : Int)) = true := by unfold Pl.inB; rw [hdb, ← HN.out]; exact decide_eq_true (by omega)
      obtain ⟨m, hm⟩ : ∃ m, ib - k = m + 1 := ⟨ib - k - 1, by omega⟩
      have hm2 : m = ib - (k + 1) := by omega
      rw [hm] at hgo
      unfold newGo at hgo
      have htick := tick_b dk
      have htl : dk.left - 1 ≤ dk.tick.left := by
        unfold Pl.tick
        split
        · exact Int.le_refl _
        · omega
      cases hsp : dk.spent with
      | true => as_aux_lemma =>
        rw [hsp, if_pos rfl] at hgo
        have hrE : dk.rdE ((ino : Int) + (k : Int)) = 4 := by unfold Pl.rdE; rw [hsp, if_pos rfl]
        have hrB : dk.rdB ((ino : Int) + (k : Int)) = [] := by unfold Pl.rdB; rw [hsp, if_pos rfl]
        simp only [hrE, hrB, List.length_nil] at ID
        have HGO := hid hgo; have HKK := hid hkk
        clear hgo hrE hrB hsp htick hdb hdd hdl hkk hik hrl hm hm2 hinb
        go_wp2_with fail
        refine ID.mono ?_
        rintro e w3 ⟨⟨A3, c3, N3, rfl, rfl, ho3⟩, hi3, hk3⟩
        have HI3 := hid hi3; have HK3 := hid (((Kpt.of_below HB3.out).trans HKK.out).trans hk3)
        clear ID ho3 hi3 hk3
        go_wp2
        refine bodyPost_ret (v := .tuple #[.int .i64 0, .int .i64 4]) (by simp [results, Try.results25, go_sem]) rfl ?_
        rw [← HGO.out]
        exact ⟨rfl, S, HI3.out.monoQ (fun _ _ => trivial), HK3.out, fun b hb => .inl hb⟩
      | false => as_aux_lemma =>
        rw [hsp, if_neg (by decide)] at hgo
        have hrE : dk.rdE ((ino : Int) + (k : Int)) = 0 := by unfold Pl.rdE; rw [hsp, if_neg (by decide), if_pos hinb]
        have hrB : dk.rdB ((ino : Int) + (k : Int)) = d.b.getD (ino + k) [] := by
          unfold Pl.rdB
          rw [hsp, if_neg (by decide), if_pos hinb, hdb, show ((ino : Int) + (k : Int)).toNat = ino + k by omega]
        have h4 := H4.out (ino + k) hNk
        rw [hdb] at hgo
        simp only [hrE, hrB] at ID
        generalize d.b.getD (ino + k) [] = blk at ID hgo h4
        rw [h4] at ID
        obtain ⟨r, hr⟩ : ∃ r, r = scanB blk 64 0 := ⟨_, rfl⟩
        rw [← hr] at hgo
        have HGO := hid hgo; have HKK := hid hkk; have HR := hid hr; have HL4 := hid h4; have HT := hid htick; have HDB := hid hdb; have HDD := hid hdd
        clear hgo hrE hrB hsp htick hdb hdd hkk hik hrl hm hinb hr h4
        go_wp2_with fail
        refine ID.mono ?_
        rintro e w3 ⟨⟨A3, c3, N3, rfl, rfl, ho3⟩, hi3, hk3⟩
        obtain ⟨g, rfl, hg1, hg2⟩ := own_adrP ho3 (by intro e; have := HL4.out; rw [e] at this; simp at this)
        have hcap := ho3.cap
        rw [HL4.out] at hcap
        obtain ⟨hcap1, hcap2⟩ := hcap
        have hk23 := HKK.out.trans hk3
        have hkw3 := (Kpt.of_below HB3.out).trans hk23
        have hrl3 := (hk23.block _ (heap_in HRL2.out) (fun e => by have := HS.out _ e; omega)).trans HRL2.out
        have hob3 : OwnB w1.heap.size w3 A c' ob := own_kpt HO.out hk23 (fun b hb hS => by have := HS.out b hS; have := own_base HO.out b hb; omega)
        have hz3 := hk3.size
        have HI3 := hid hi3; have HK3 := hid hkw3; have HO3 := hid ho3; have HRL3 := hid hrl3; have HOB3 := hid hob3; have HK23 := hid hk23
        clear ID ho3 hi3 hk3 hkw3 hk23 hrl3 hob3 z0 z1 z2 z3 z4 z5 z6
        go_wp2_with fail
        go_loopw [53] (fun i wr => ∃ j : Nat, j ≤ 64 ∧ i = .int .i64 ((j : Nat) : Int) ∧ scanB blk (64 - j) j = r ∧ Below w3.heap.size w3 wr) (fun i _ => 64 - (intOf i).toNat)
        case atStart => exact ⟨0, by omega, rfl, HR.out.symm, Below.refl _ _⟩
        case round => as_aux_lemma =>
          obtain ⟨j, hj, rfl, hsc, hbj⟩ := hrel
          by_cases hj64 : j < 64
          · as_aux_lemma =>
            obtain ⟨q, hq⟩ : ∃ q, 64 - j = q + 1 := ⟨64 - j - 1, by omega⟩
            have hq2 : q = 64 - (j + 1) := by omega
            rw [hq] at hsc
            unfold scanB at hsc
            obtain ⟨p, hp⟩ : ∃ p, p = j * 64 := ⟨_, rfl⟩
            have hp1 : (j : Int) * 64 = (p : Int) := by omega
            have hp2 : ((j : Int) + 1) * 64 = (p : Int) + 64 := by omega
            have hp4 : p + 64 ≤ 4096 := by omega
            have hsl : slotB blk j = (blk.drop p).take 64 := by rw [hp]; rfl
            have hol := HO3.out.below hbj
            have rp := hol.rd.part p 64
            rw [Nat.zero_add, ← hsl] at rp
            have GI := GetInode_any wr (some ⟨g, p, none⟩) (c3 - p) 64 (slotB blk j) (slotB_length _ _ HL4.out hj64).symm (by rw [slotB_length _ _ HL4.out hj64]; decide) rp
            have t1 : (p : Int) + 64 ≤ (c3 : Int) := by omega
            have t2 : ((p : Int) + 64).toNat = p + 64 := by omega
            have t3 : p + 64 - p = 64 := by omega
            have t4 : ¬ c3 = p := by omega
            obtain ⟨I, hI⟩ : ∃ I, I = gotInd (slotB blk j) := ⟨_, rfl⟩
            obtain ⟨E, hE⟩ : ∃ E, E = gerrInd (slotB blk j) := ⟨_, rfl⟩
            rw [← hI, ← hE] at GI hsc
            have HSC := hid hsc; have HBJ := hid hbj; have HOL := hid hol; have HP := hid hp; have HQ := hid hq2
            clear hsc hbj hol hp hsl rp hI hE hq hq2
            obtain ⟨kd, ln, sz, nd, dir2⟩ := I
            simp only [Ind.val, indCells] at GI HSC
            go_wp2_with fail
            refine GI.mono ?_
            rintro e w4 ⟨A4, c4, rfl, ox, hb4⟩
            clear GI ox
            have hY := heap_alloc_new w4 (.cells #[.int .u8 (kd : Int), .int .i64 ln, .int .i64 sz, .slice A4 dir2.length c4, .int .i64 nd] 54)
            have ba : Below w4.heap.size w4 (w4.alloc (.cells #[.int .u8 (kd : Int), .int .i64 ln, .int .i64 sz, .slice A4 dir2.length c4, .int .i64 nd] 54)) := (Below.refl _ _).alloc (Nat.le_refl _) _
            have hbj5 := (HBJ.out.trans (hb4.mono HBJ.out.size))
            have hbj6 := hbj5.trans (ba.mono hbj5.size)
            obtain ⟨x0, x1, x2, x3, x4⟩ := five5 hY
            have HB6 := hid hbj6
            clear hY hb4 hbj5 hbj6 ba
            by_cases hE0 : E = 0
            · as_aux_lemma =>
              subst hE0
              by_cases hkd : kd = 0
              · as_aux_lemma =>
                subst hkd
                have hsc := HSC.out
                rw [if_pos rfl, if_pos rfl] at hsc
                subst hsc
                have hgo := HGO.out
                rw [if_pos rfl, if_pos hj64] at hgo
                simp only [← HP.out] at hgo
                obtain ⟨W6, hW6⟩ : ∃ W6, W6 = w4.alloc (.cells #[.int .u8 0, .int .i64 ln, .int .i64 sz, .slice A4 dir2.length c4, .int .i64 nd] 54) := ⟨_, rfl⟩
                have hb6 : Below w3.heap.size w3 W6 := by rw [hW6]; exact HB6.out
                have hob6 := HO3.out.below hb6
                obtain ⟨cur, hcur, hcl, hct⟩ := hob6.rowS
                have hra := (HOB3.out.below hb6).rd
                obtain ⟨w7, hw7⟩ : ∃ w7, w7 = W6.setRow g (splice cur p (B8s ob)).toArray := ⟨_, rfl⟩
                have hcopy := fun ty => run_copyB W6 ty g p (4096 - p) (c3 - p) A 64 c' ob HPL.out.symm (by decide) (by omega) hra cur hcur (by omega)
                have k7 := kpt_setRow W6 g (splice cur p (B8s ob)).toArray
                have h7 := setRow_heap W6 g _ (splice cur p (B8s ob)).toArray _ _ hcur
                rw [← hw7] at k7 h7
                simp only [← hw7] at hcopy
                have hob7 := hob6.copiedS hcur (by rw [HPL.out, HL4.out]; omega) h7
                have hgb := HO3.out.lt
                have hgS : ¬ S g := fun hs => by have := HS.out _ hs; omega
                have hi7 : IsPl QT base w7 P S dk.tick := ((HI3.out.below hb6).kptQ k7 (fun b hb e => by omega) (fun b hb e => hgS (e ▸ hb))).monoQ (fun _ _ => trivial)
                have hk7 := (HK3.out.trans (Kpt.of_below hb6)).upP k7 (fun b hb => .inr (by omega))
                have hl7 : (splice blk p ob).length = 4096 := by rw [splice_lengthS _ _ _ (by rw [HPL.out, HL4.out]; omega), HL4.out]
                have hd7 : dk.tick.did ≤ 1000000 := by rw [HT.out.2.2, HDD.out]; omega
                have hPg : P ≠ g := fun e => hgS (e ▸ H.out.inS)
                have WR2 := Write_is w7 P hi7 (by omega) (ino + k) (by rw [HT.out.1, HDB.out, ← HN.out]; exact hNk) (some ⟨g, 0, none⟩) c3 _ hl7 hob7.rd hd7 (fun b hb e => by
                  simp only [Option.map_some, Option.some.injEq] at hb
                  exact hPg (e.symm.trans hb.symm))
                rw [show ((ino + k : Nat) : Int) = (ino : Int) + (k : Int) from by push_cast; rfl] at WR2
                have hrl7 : w7.heap[w.heap.size]? = some (.cells #[.int .i64 b0, .int .i64 b1, .int .i64 b2, .int .i64 b3, .int .i64 (ino : Int), .int .i64 (ib : Int), .int .i64 b6] 39 (0, 0)) := (k7.block _ (by have := heap_in HRL3.out; have := hb6.size; omega) (fun e => by omega)).trans ((hb6.block _ (heap_in HRL3.out)).trans HRL3.out)
                obtain ⟨z0, z1, z2, z3, z4, z5, z6⟩ := cells7b hrl7
                rw [hW6] at hcopy
                have HGO2 := hid hgo; have HK7 := hid hk7
                clear hgo hb6 hob6 hcur hcl hct hra k7 h7 hob7 hgb hi7 hk7 hrl7 hw7 hW6 hgS hPg HSC
                go_wp2_with fail
                refine WR2.mono ?_
                rintro e w8 ⟨rfl, S8, i8, k8, h8⟩
                have hz7 := HK7.out.size
                have HI8 := hid i8; have HK8 := hid (HK7.out.trans k8); have HS8 := hid (show ∀ b, S8 b → S b ∨ w.heap.size ≤ b from fun b hb => (h8 b hb).imp id (fun h => by omega))
                clear WR2 i8 k8 h8 z0 z1 z2 z3 z4 z5 z6
                cases hsp : dk.tick.spent with
                | true => as_aux_lemma =>
                  have hi := HI8.out
                  rw [hsp] at hi
                  simp only [if_true] at hi ⊢
                  have hr := HGO2.out
                  rw [hsp, if_pos rfl] at hr
                  have HI := hid hi; have HR2 := hid hr
                  clear hi hsp hr
                  go_wp2
                  refine bodyPost_ret (v := .tuple #[.int .i64 0, .int .i64 4]) (by simp [results, Try.results25, go_sem]) rfl ?_
                  rw [← HR2.out]
                  exact ⟨rfl, S8, HI.out, HK8.out, HS8.out⟩
                | false => as_aux_lemma =>
                  have hi := HI8.out
                  rw [hsp] at hi
                  simp only [Bool.false_eq_true, if_false] at hi ⊢
                  have hr := HGO2.out
                  rw [hsp, if_neg (by decide)] at hr
                  have HI := hid hi; have HR2 := hid hr
                  clear hi hsp hr
                  go_wp2
                  refine bodyPost_ret (v := .tuple #[.int .i64 ((k * 64 + j + 1 : Nat) : Int), .int .i64 0]) (by simp [results, Try.results25, go_sem]) rfl ?_
                  rw [← HR2.out]
                  exact ⟨rfl, S8, HI.out, HK8.out, HS8.out⟩
              · as_aux_lemma =>
                have hkI : ((kd : Int) != 0) = true := by simpa using hkd
                have hsc := HSC.out
                rw [if_pos rfl, if_neg hkd, HQ.out] at hsc
                have HSC2 := hid hsc
                clear hsc HSC
                go_wp2_with fail
                go_roundw
                case rel => exact ⟨j + 1, by omega, by go_num, HSC2.out, HB6.out⟩
                case measure => simp [intOf]; omega
            · as_aux_lemma =>
              have hb : (E != 0) = true := by simpa using hE0
              have hsc := HSC.out
              rw [if_neg hE0] at hsc
              subst hsc
              have hgo := HGO.out
              rw [if_neg hE0] at hgo
              have HGO2 := hid hgo; have HI6 := hid (HI3.out.below HB6.out); have HK6 := hid (HK3.out.trans (Kpt.of_below HB6.out))
              clear hgo HSC
              go_wp2
              refine bodyPost_ret (v := .tuple #[.int .i64 0, .int .i64 E]) (by simp [results, Try.results25, go_sem]) rfl ?_
              rw [← HGO2.out]
              exact ⟨rfl, S, HI6.out.monoQ (fun _ _ => trivial), HK6.out, fun b hb => .inl hb⟩
          · as_aux_lemma =>
            obtain rfl : j = 64 := by omega
            have hsc : (64, (0 : Int)) = r := hsc
            have hgo := HGO.out
            rw [← hsc] at hgo
            simp only [if_true] at hgo
            rw [if_neg (by decide), hm2] at hgo
            have HGO2 := hid hgo; have HI6 := hid (HI3.out.below hbj); have HK6 := hid (HK23.out.trans (Kpt.of_below hbj))
            have HL6 := hid (show d.left - ((k + 1 : Nat) : Int) ≤ dk.tick.left by push_cast; omega)
            clear hgo hbj
            go_wp2_with fail
            go_roundw
            case rel => exact ⟨k + 1, dk.tick, by omega, by go_num, HGO2.out, HI6.out, HK6.out, HT.out.1.trans HDB.out, HT.out.2.2.trans HDD.out, HL6.out⟩
            case measure => simp [intOf]; omega
    · as_aux_lemma =>
      obtain rfl : k = ib := by omega
      rw [Nat.sub_self] at hgo
      have HGO := hid hgo; have HI6 := hid hik; have HK6 := hid ((Kpt.of_below HB3.out).trans hkk)
      clear hgo hik hkk hrl hdb hdd
      go_wp2
      refine bodyPost_ret (v := .tuple #[.int .i64 0, .int .i64 231]) (by simp [results, Try.results25, go_sem]) rfl ?_
      rw [← HGO.out]
      exact ⟨rfl, S, HI6.out.monoQ (fun _ _ => trivial), HK6.out, fun b hb => .inl hb⟩
end Go.Proofs.Ytahlhdhljjpeoaa
