/- does of law 04, a write (printed by gen04p.py). -/
import Derived.Test.YtddejjmebokgiaaRfK
import Derived.Test.YtddejjmebokgiaaLaw04c
namespace Go.Proofs.Ytddejjmebokgiaa
open Go.RowKit
variable {Q : Nat → Prop}
set_option maxHeartbeats 3200000
set_option maxRecDepth 100000
set_option linter.unusedVariables false
set_option linter.unusedSimpArgs false

/-- What lies outside a stretch of blocks. -/
def Qw (w : World) (m : Nat) (b : Nat) : Prop := b < w.heap.size ∨ m ≤ b
theorem does_endW {base : Nat} {w w2 w3 wf : World} {m D : Nat} {S F S2 F3 : Nat → Prop} {v' : Value} {d d' : Dk} (hS : ∀ b, S b → b < w.heap.size) (hF : ∀ b, F b → b < w.heap.size) (hsep : ∀ b, S b → ¬ F b) (hm : w.heap.size ≤ m) (h12 : m ≤ w2.heap.size)
    (i3 : IsDk (Qw w m) base w3 D S2 d') (hs2 : ∀ b, S2 b → S b ∨ m ≤ b) (hv : IsRf (Qw w m) w3 F3 v' d') (hf3 : ∀ b, F3 b → F b ∨ w2.heap.size ≤ b) (hlt : ∀ b, S2 b → b < w2.heap.size) (k3 : Kpt S w w3)
    (kf : Kpt (fun b => w.heap.size ≤ b ∧ b < m) w3 wf) (e : Ending) (he : e = .returned (.tuple #[v', .bool true])) : DoesP base w D S F d d' e wf := by
  have hQ : ∀ b, Qw w m b → ¬ (w.heap.size ≤ b ∧ b < m) := by
    rintro b (h | h) ⟨h1, h2⟩ <;> omega
  refine ⟨v', S2, F3, he, (i3.kptQ kf hQ (fun b hb e => ?_)).monoQ (fun _ _ => trivial), (hv.kptQ kf hQ (fun b hb e => ?_)).monoQ (fun _ _ => trivial), fun b hb hb2 => ?_, k3.up kf (fun b hb e => by omega), fun b hb => (hs2 b hb).imp id (fun h => by omega), fun b hb => (hf3 b hb).imp id (fun h => by omega)⟩
  · rcases hs2 b hb with h | h
    · have := hS b h; omega
    · omega
  · rcases hf3 b hb with h | h
    · have := hF b h; omega
    · omega
  · rcases hs2 b hb with h | h
    · rcases hf3 b hb2 with h2 | h2
      · exact hsep b h h2
      · have := hS b h; omega
    · rcases hf3 b hb2 with h2 | h2
      · have := hF b h2; omega
      · have := hlt b hb; omega
def szN (sz : Int) : Nat := (max (min (wrap64 (4096 + sz)) 5000) 0).toNat
theorem szN_le (sz : Int) : szN sz ≤ 5000 := by unfold szN; omega
theorem RdB.front {w : World} {a : Option Addr} {l r : List UInt8} (h : RdB w a (l ++ r)) : RdB w a l := h.pre

theorem does_write {base : Nat} (w : World) (D : Nat) {S F : Nat → Prop} {v : Value} {d : Dk} (h : IsDk AnyB base w D S d) (hr : IsRf AnyB w F v d) (hsep : ∀ b, S b → ¬ F b) (hf : d.fit) (hw : d.wn.length < 1000000) (n sz bb : Int) (ka : Option Addr) (nk kc : Nat) (s : Nat) (hs : s < 256) :
    Calls Try.prog 34 #[ptr D, v, .agg #[.int .i64 1, .int .i64 n, .int .i64 sz, .int .i64 bb, .slice ka nk kc, .int .u8 (s : Int)]] w (DoesP base w D S F d (d.wrD n (madeB bb (szN sz)))) := by
  obtain ⟨gs, cs, A, c, e⟩ := hr.two
  subst e
  have hS : ∀ b, S b → b < w.heap.size := fun b hb => (h.blocks hb).2.1
  have hF : ∀ b, F b → b < w.heap.size := by
    obtain ⟨_, _, _, _, _, _, _, _, _, _, _, _, h5⟩ := hr
    exact fun b hb => (h5 b hb).1
  obtain ⟨w1, hw1, r4, r5, r6, r8, b1, hsz⟩ := rows4 w (.cells #[.slice (some ⟨gs, 0, none⟩) d.safe.length cs, .slice A d.wn.length c, .int .i64 d.count, .bool d.down, .int .i64 d.am, .int .i64 d.fm] 59) (.cells #[.int .i64 1, .int .i64 n, .int .i64 sz, .int .i64 bb, .slice ka nk kc, .int .u8 (s : Int)] 63) (.cells #[.slice none 0 0, .slice none 0 0, .int .i64 0, .bool false, .int .i64 0, .int .i64 0] 59) (.cells #[.slice (some ⟨gs, 0, none⟩) d.safe.length cs, .slice A d.wn.length c, .int .i64 d.count, .bool d.down, .int .i64 d.am, .int .i64 d.fm] 59)
  have i0 := h.lt
  have hr0 := hr.lt
  have HS := hid hS; have HF := hid hF; have HSEP := hid hsep; have HFIT := hid hf
  have hbs := (h.blocks h.inS).1
  clear hr hS hF hsep hf h
  have HW1 := hid hw1
  have i1q := i0.below b1
  have hr1q := hr0.below b1
  have PC := fun (W : World) (hi : IsDk (fun b => AnyB b ∧ b < w.heap.size) base W D S d) (g cc N : Nat) (l : List UInt8) (hN : N = l.length) (hr : RdU W (some ⟨g, 0, none⟩) l) => Write_is W D hi hw n (some ⟨g, 0, none⟩) cc N l hN hr
  have RC := fun (W : World) (hi : IsRf (fun b => AnyB b ∧ b < w.heap.size) W F (rfA (.slice (some ⟨gs, 0, none⟩) d.safe.length cs) (.slice A d.wn.length c) d) d) (g cc N : Nat) (l : List UInt8) (hN : N = l.length) (hl : l.length ≤ 100000) (hr : RdB W (some ⟨g, 0, none⟩) l) => RWrite_is W hi HFIT.out hw n (some ⟨g, 0, none⟩) cc N l hN hl hr
  obtain ⟨N0, hN0⟩ : ∃ N0, N0 = szN sz := ⟨_, rfl⟩
  have hN5 : N0 ≤ 5000 := by rw [hN0]; exact szN_le sz
  obtain ⟨y5, hy5⟩ : ∃ y, y = min (wrap64 (4096 + sz)) 5000 := ⟨_, rfl⟩
  have hmin : ∀ (ts : Array TypeId) (t : TypeId) (W : World), (Builtin.min_ ts t #[.int .i64 (wrap64 (4096 + sz)), .int .i64 5000]).run Try.prog W = .ok (.int .i64 y5) W := by
    intro ts t W
    rw [run_min_int2]
    have : (if (5000 : Int) < wrap64 (4096 + sz) then 5000 else wrap64 (4096 + sz)) = y5 := by rw [hy5]; split <;> omega
    rw [this]
  have hmax : ∀ (ts : Array TypeId) (t : TypeId) (W : World), (Builtin.max_ ts t #[.int .i64 y5, .int .i64 0]).run Try.prog W = .ok (.int .i64 (N0 : Int)) W := by
    intro ts t W
    rw [run_max_int2]
    have : (if (0 : Int) > y5 then 0 else y5) = (N0 : Int) := by rw [hN0]; unfold szN; rw [← hy5]; split <;> omega
    rw [this]
  have MD := fun W => Made_any W bb N0 (by omega)
  have hml := madeB_length bb N0
  have HD2 := hid (show ∀ l, l = madeB bb N0 → d.wrD n l = d.wrD n (madeB bb (szN sz)) by rintro l rfl; rw [hN0])
  clear hN0 hy5
  generalize madeB bb N0 = L at *
  have HL := hid hml
  unfold rfA ptr at *
  generalize hNN : d.safe.length = N at *
  generalize hKK : d.wn.length = K at *
  clear hNN hKK
  obtain ⟨m0, m1, m2, m3, m4, m5⟩ := six r5
  have n0 := m0; have n1 := m1; have n2 := m2; have n3 := m3; have n5 := m5
  rw [HW1.out] at n0 n1 n2 n3 n5
  clear m0 m2 m3
  clear hml
  go_enter Try.func34, Try.ntmps34
  clear hw1
  go_wp2_with fail
  rw [← HW1.out]
  refine (MD _).mono ?_
  rintro e u1 ⟨gm, rfl, om, bm⟩
  clear MD hmin hmax n0 n1 n2 n3 n5
  go_wp2_with fail
  refine (LentBytes_any u1 (some ⟨gm, 0, none⟩) N0 N0 L HL.out.symm (by have := HL.out; omega) om.rd).mono ?_
  rintro e u2 ⟨Al, cl, rfl, ol, bl⟩
  obtain ⟨gl, rfl, hgl1, hgl2⟩ := own_adr ol (by simp)
  have bb2 := bm.trans (bl.mono bm.size)
  have om2 : OwnB w1.heap.size u2 (some ⟨gm, 0, none⟩) N0 L := own_below om bl
  have r4b := (bb2.block _ (heap_in r4)).trans r4
  have r5b := (bb2.block _ (heap_in r5)).trans r5
  have r6b := (bb2.block _ (heap_in r6)).trans r6
  have r8b := (bb2.block _ (heap_in r8)).trans r8
  have i2b := i1q.below bb2
  have hr2b := hr1q.below bb2
  have hu12 := bm.size; have hu2 := bl.size
  have hgm := om.lt
  have rdu : RdU u2 (some ⟨gl, 0, none⟩) L := fun hn => ⟨gl, 0, rfl, ol.rd.front, ol.u8⟩
  have PC2 := PC _ i2b gl cl N0 L HL.out.symm rdu
  have OM := hid om2; have OL := hid ol; have B02 := hid (b1.trans (bb2.mono b1.size))
  clear PC om ol om2 rdu i1q hr1q r4 r5 r6 r8 bm bl b1
  obtain ⟨t0, t1, t2', t3, t4, t5⟩ := six r4b
  obtain ⟨m0, m1, m2, m3, m4, m5⟩ := six r5b
  clear m0 m2 m3
  go_wp2_with fail
  refine (PC2).mono ?_
  rintro e w2 ⟨rfl, t2⟩
  obtain ⟨S2, i2q, k2, hs2'⟩ := t2
  have hs2s := k2.size
  have r42 := (k2.block _ (heap_in r4b) (fun x => by have := HS.out _ x; omega)).trans r4b
  have r52 := (k2.block _ (heap_in r5b) (fun x => by have := HS.out _ x; omega)).trans r5b
  have r62 := (k2.block _ (heap_in r6b) (fun x => by have := HS.out _ x; omega)).trans r6b
  have r82 := (k2.block _ (heap_in r8b) (fun x => by have := HS.out _ x; omega)).trans r8b
  have hr2 := hr2b.kpt k2 i2b.nou (fun b hb x => HSEP.out b x hb)
  have om2 := OM.out.kpt k2 (fun x => by have := HS.out _ x; omega)
  have ol2 := OL.out.kpt k2 (fun x => by have := HS.out _ x; omega)
  have i2 : IsDk (Qw w u2.heap.size) base w2 D S2 _ := i2q.monoQ (fun b hb => by rcases hb with ⟨_, h⟩ | h; exact .inl h; exact .inr h)
  have k02 := hid (show Kpt S w w2 from (Kpt.of_below B02.out).trans k2)
  have hs2 := hid (show ∀ b, S2 b → S b ∨ u2.heap.size ≤ b from hs2')
  have RC2 := RC _ hr2 gm N0 N0 L HL.out.symm (by have := HL.out; omega) om2.rd
  have OM2 := hid om2; have OL2 := hid ol2
  clear t0 t1 t2' t3 t4 t5 m1 m4 m5 PC2 RC OM OL hr2 hr2b i2b i2q r4b r5b r6b r8b k2 hs2' om2 ol2
  obtain ⟨p0, p1, p2, p3, p4, p5⟩ := six r42
  obtain ⟨m0, m1, m2, m3, m4, m5⟩ := six r52
  clear m0 m2 m3
  go_wp2_with fail
  refine (RC2).mono ?_
  rintro e w3 ⟨v', F3, rfl, hv3q, hf3', b3⟩
  clear RC2 p0 p1 p2 p3 p4 p5 m1 m4 m5
  have hv3 : IsRf (Qw w u2.heap.size) w3 F3 v' _ := hv3q.monoQ (fun b hb => by rcases hb with ⟨_, h⟩ | h; exact .inl h; exact .inr (by omega))
  have hf3 : ∀ b, F3 b → F b ∨ w2.heap.size ≤ b := hf3'
  have om3 : OwnB w1.heap.size w3 (some ⟨gm, 0, none⟩) N0 L := own_below OM2.out b3
  have ol3 : OwnB u1.heap.size w3 (some ⟨gl, 0, none⟩) cl (L ++ [77, 78, 79]) := own_below OL2.out b3
  clear hv3q hf3' OM2 OL2
  obtain ⟨g3, cs3, A3, c3, ev⟩ := hv3.two
  subst ev
  have r63 := (b3.block _ (heap_in r62)).trans r62
  have r83 := (b3.block _ (heap_in r82)).trans r82
  have h23 := b3.size
  obtain ⟨x, hx⟩ : ∃ x, x = d.wrD n L := ⟨_, rfl⟩
  have HX := hid (hx.trans (HD2.out L rfl))
  rw [← hx] at hv3 i2 ⊢
  have i3 := i2.below b3
  have HLT := hid (fun b (hb : S2 b) => (i2.blocks hb).2.1)
  have K3' := hid (show Kpt S w w3 from (k02.out.trans (.of_below b3)))
  unfold rfA at *
  generalize hN3 : x.safe.length = N3 at *
  generalize hK3 : x.wn.length = K3 at *
  clear hx hN3 hK3
  obtain ⟨q0, q1, q2, q3, q4, q5⟩ := six r83
  have f0 := frow r83 0; have f1 := frow r83 1; have f2 := frow r83 2; have f3 := frow r83 3; have f4 := frow r83 4; have f5 := frow r83 5
  obtain ⟨wg, hwg⟩ : ∃ wg, wg = ((((((w3.setCell ⟨w.heap.size + 3, 0, none⟩ (.slice (some ⟨g3, 0, none⟩) N3 cs3)).setCell ⟨w.heap.size + 3, 1, none⟩ (.slice A3 K3 c3)).setCell ⟨w.heap.size + 3, 2, none⟩ (.int .i64 x.count)).setCell ⟨w.heap.size + 3, 3, none⟩ (.bool x.down)).setCell ⟨w.heap.size + 3, 4, none⟩ (.int .i64 x.am)).setCell ⟨w.heap.size + 3, 5, none⟩ (.int .i64 x.fm)) := ⟨_, rfl⟩
  have rg8 : wg.heap[w.heap.size + 3]? = some (.cells #[.slice (some ⟨g3, 0, none⟩) N3 cs3, .slice A3 K3 c3, .int .i64 x.count, .bool x.down, .int .i64 x.am, .int .i64 x.fm] 59 (0, 0)) := by rw [hwg]; exact row_set6 r83
  have kg : Kpt (fun b => b = w.heap.size + 3) w3 wg := by rw [hwg]; exact kpt_set6 (Kpt.refl _ _) rfl
  have rg6 := (kg.block _ (heap_in r63) (by omega)).trans r63
  have omg := om3.kpt kg (by omega)
  have olg := ol3.kpt kg (by omega)
  have capg := ol3.cap
  rw [List.length_append, HL.out] at capg
  have capg1 : N0 + 3 ≤ cl := capg.1
  have KB := KeptBytes_any wg (some ⟨gl, 0, none⟩) (some ⟨gm, 0, none⟩) cl N0 N0 L HL.out.symm (by have := HL.out; omega) (by rw [HL.out]; exact capg1) olg.rd omg.rd
  have OV := OverBytes_any wg gl cl N0 u1.heap.size (L ++ [77, 78, 79]) (by rw [List.length_append, HL.out]; rfl) (by omega) olg
  have HWG := hid hwg
  have kg' := hid kg; have RG6 := hid rg6; have RG8 := hid rg8
  clear hwg omg olg om3 ol3 capg kg rg6 rg8
  go_wp2_with fail
  rw [← HWG.out]
  refine (KB).mono ?_
  rintro e w4 ⟨rfl, rfl⟩
  clear KB q0 q1 q2 q3 q4 q5 f0 f1 f2 f3 f4 f5
  go_wp2_with fail
  refine (OV).mono ?_
  rintro e wo ⟨rfl, ko⟩
  clear OV
  have ro6 := (ko.block _ (heap_in RG6.out) (by omega)).trans RG6.out
  have ro8 := (ko.block _ (heap_in RG8.out) (by omega)).trans RG8.out
  obtain ⟨x0, x1, x2, x3, x4, x5⟩ := six ro8
  obtain ⟨y0, y1, y2, y3, y4, y5⟩ := six ro6
  have e0 := frow ro6 0; have e1 := frow ro6 1; have e2 := frow ro6 2; have e3 := frow ro6 3; have e4 := frow ro6 4; have e5 := frow ro6 5
  have KO := hid ko; have RO6 := hid ro6
  clear ko ro6 ro8
  go_wp2_with fail
  obtain ⟨wf, hwf⟩ : ∃ wf, wf = ((((((wo.setCell ⟨w.heap.size + 2, 0, none⟩ (.slice (some ⟨g3, 0, none⟩) N3 cs3)).setCell ⟨w.heap.size + 2, 1, none⟩ (.slice A3 K3 c3)).setCell ⟨w.heap.size + 2, 2, none⟩ (.int .i64 x.count)).setCell ⟨w.heap.size + 2, 3, none⟩ (.bool x.down)).setCell ⟨w.heap.size + 2, 4, none⟩ (.int .i64 x.am)).setCell ⟨w.heap.size + 2, 5, none⟩ (.int .i64 x.fm)) := ⟨_, rfl⟩
  have hrf : wf.heap[w.heap.size + 2]? = some (.cells #[.slice (some ⟨g3, 0, none⟩) N3 cs3, .slice A3 K3 c3, .int .i64 x.count, .bool x.down, .int .i64 x.am, .int .i64 x.fm] 59 (0, 0)) := by rw [hwf]; exact row_set6 RO6.out
  have kf : Kpt (fun b => b = w.heap.size + 2) wo wf := by rw [hwf]; exact kpt_set6 (Kpt.refl _ _) rfl
  have kk : Kpt (fun b => w.heap.size ≤ b ∧ b < u2.heap.size) w3 wf := ((kg'.out.mono (fun b e => by omega)).trans (KO.out.mono (fun b e => by omega))).trans (kf.mono (fun b e => by omega))
  rw [← hwf]
  obtain ⟨z0, z1, z2, z3, z4, z5⟩ := six hrf
  refine bodyPost_ret (v := .tuple #[.agg #[.slice (some ⟨g3, 0, none⟩) N3 cs3, .slice A3 K3 c3, .int .i64 x.count, .bool x.down, .int .i64 x.am, .int .i64 x.fm], .bool true]) (by simp [results, Try.results34, go_sem, z0, z1, z2, z3, z4, z5]) rfl ?_
  exact (does_endW HS.out HF.out HSEP.out (by omega) (by omega) i3 hs2.out hv3 hf3 HLT.out K3'.out kk _ rfl).cast HX.out

end Go.Proofs.Ytddejjmebokgiaa
