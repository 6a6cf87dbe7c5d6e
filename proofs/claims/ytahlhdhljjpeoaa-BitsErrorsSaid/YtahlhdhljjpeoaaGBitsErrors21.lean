/- Texts joined: InoP, ErrP, SpR. -/
import Derived.Test.YtahlhdhljjpeoaaGBitsErrors20
/- What BitsInodes looks at (plain). -/
namespace Go.Proofs.Ytahlhdhljjpeoaa
open Go.RowKit
set_option maxHeartbeats 1000000
set_option maxRecDepth 100000
set_option linter.unusedVariables false
set_option linter.unusedSimpArgs false

def LenI (I : Nat → List UInt8) : Prop := ∀ k, (I k).length = 4096
theorem lenI_zeros : LenI (fun _ => zeros 4096) := fun k => by simp [zeros]
theorem LenI.set {I : Nat → List UInt8} (h : LenI I) (s : Nat) (own : List UInt8) (ho : own.length = 64) : LenI (setI I s own) := fun k => by
  unfold setI upd
  split
  · rw [splice_lengthS _ _ _ (by rw [h, ho]; omega)]; exact h _
  · exact h k
theorem okInd_got {x : Ind} (h : okInd x = true) : gotInd (putInd x) = x ∧ gerrInd (putInd x) = 0 ∧ (putInd x).length = 64 := by
  have h1 := got_indB x h
  have h2 := putInd_length h
  unfold putInd at *
  rw [if_pos h] at h2 ⊢
  exact ⟨h1.1, h1.2, h2⟩
/-- SetInode, where the space answers. -/
theorem Sp.sei {d : Pl} {u : List Bool} {I : Nat → List UInt8} (h : Sp d L64 u I) {k : Nat} (n : Dn d 64 k) (s : Nat) (hs : s < 256) (x : Ind) (hx : okInd x = true) :
    ∃ d', seiP d L64 ((1 + s : Nat) : Int) x = (d', 0) ∧ Dn d' 64 (k + 1) ∧ Sp d' L64 u (setI I s (putInd x)) := by
  obtain ⟨ht, hsp⟩ := Pl.off n.ends
  have e := h.seiG (1 + s) (by omega) (by show 1 + s ≤ 256; omega) x hx
  simp only [ht, hsp, Bool.false_eq_true, if_false] at e
  rw [show 1 + s - 1 = s by omega] at e
  exact ⟨_, e, n.put _ _, h.putS s hs _⟩
theorem sei_no {d : Pl} {l : Lay} {x : Ind} (hR : rightL l = true) (i : Int) (hx : okInd x = false) : seiP d l i x = (d, 2) := by
  unfold seiP
  rw [if_pos hR, hx]
  rfl
theorem Sp.get {d : Pl} {u : List Bool} {I : Nat → List UInt8} (h : Sp d L64 u I) {k : Nat} (n : Dn d 64 k) (s : Nat) (hs : s < 256) :
    whE d L64 ((1 + s : Nat) : Int) = 0 ∧ whD d L64 ((1 + s : Nat) : Int) = d ∧ inPart d L64 ((1 + s : Nat) : Int) = slI I s := by
  obtain ⟨ht, hsp⟩ := Pl.off n.ends
  obtain ⟨a, b, _, c⟩ := h.whG (1 + s) (by omega) (by show 1 + s ≤ 256; omega)
  refine ⟨by rw [a, hsp]; rfl, by rw [b, ht], ?_⟩
  rw [c hsp, show 1 + s - 1 = s by omega]
  rfl
theorem Sp.new {d : Pl} {u : List Bool} {I : Nat → List UInt8} (h : Sp d L64 u I) {k : Nat} (n : Dn d 64 k) (s : Nat) (hs : s < 256) (h1 : ∀ t, t < s → gerrInd (slI I t) = 0 ∧ (gotInd (slI I t)).k ≠ 0) (h2 : gerrInd (slI I s) = 0 ∧ (gotInd (slI I s)).k = 0) (x : Ind) (hx : niOk x = true) :
    ∃ d', newP d L64 x = (d', ((s + 1 : Nat) : Int), 0) ∧ Dn d' 64 (k + 1) ∧ Sp d' L64 u (setI I s (putInd x)) := by
  obtain ⟨ht, hsp⟩ := Pl.off n.ends
  have e := h.newAt hsp s (.inl n.ends) hs h1 h2 x hx
  simp only [ht, hsp, Bool.false_eq_true, if_false] at e
  exact ⟨_, e, n.put _ _, h.putS s hs _⟩
/-- Is it taken by one of the two? -/
def twoT (p q : Nat) (x y : Ind) (t : Nat) : Prop := (t = p ∧ x.k ≠ 0) ∨ (t = q ∧ y.k ≠ 0)
def iX : Ind := ⟨1, 7, 0, 0, []⟩
theorem inodes_plain (p q : Nat) (hp : p < 256) (hq : q < 256) (hpq : p ≠ q) (x y : Ind) (hx : okInd x = true) (hy : okInd y = true) :
    ∃ d1 d2 d3 s, seiP (spD 64) L64 ((1 + p : Nat) : Int) x = (d1, 0) ∧ Dn d1 64 6 ∧ seiP d1 L64 ((1 + q : Nat) : Int) y = (d2, 0) ∧ Dn d2 64 7 ∧
      (whE d2 L64 ((1 + p : Nat) : Int) = 0 ∧ whD d2 L64 ((1 + p : Nat) : Int) = d2 ∧ gotInd (inPart d2 L64 ((1 + p : Nat) : Int)) = x ∧ gerrInd (inPart d2 L64 ((1 + p : Nat) : Int)) = 0) ∧
      (whE d2 L64 ((1 + q : Nat) : Int) = 0 ∧ whD d2 L64 ((1 + q : Nat) : Int) = d2 ∧ gotInd (inPart d2 L64 ((1 + q : Nat) : Int)) = y ∧ gerrInd (inPart d2 L64 ((1 + q : Nat) : Int)) = 0) ∧
      newP d2 L64 iX = (d3, ((s + 1 : Nat) : Int), 0) ∧ Dn d3 64 8 ∧
      (whE d3 L64 ((1 + s : Nat) : Int) = 0 ∧ whD d3 L64 ((1 + s : Nat) : Int) = d3 ∧ gotInd (inPart d3 L64 ((1 + s : Nat) : Int)) = iX ∧ gerrInd (inPart d3 L64 ((1 + s : Nat) : Int)) = 0) ∧
      s ≤ 2 ∧ (∀ t, t < s → twoT p q x y t) ∧ ¬ twoT p q x y s := by
  obtain ⟨gx1, gx2, gx3⟩ := okInd_got hx
  obtain ⟨gy1, gy2, gy3⟩ := okInd_got hy
  have hX : okInd iX = true := by decide
  obtain ⟨gX1, gX2, gX3⟩ := okInd_got hX
  obtain ⟨d1, e1, n1, s1⟩ := sp64.sei dn64 p hp x hx
  obtain ⟨d2, e2, n2, s2⟩ := s1.sei n1 q hq y hy
  have l1 := lenI_zeros.set p (putInd x) gx3
  have l2 := l1.set q (putInd y) gy3
  obtain ⟨I2, hI2⟩ : ∃ I2, I2 = setI (setI (fun _ => zeros 4096) p (putInd x)) q (putInd y) := ⟨_, rfl⟩
  have hsl : ∀ t, t < 256 → slI I2 t = if t = q then putInd y else if t = p then putInd x else zeros 64 := fun t ht => by
    rw [hI2, slI_set _ _ _ _ (l1 _) gy3]
    split
    · rfl
    · rw [slI_set _ _ _ _ (lenI_zeros (p / 64)) gx3]
      split
      · rfl
      · unfold slI
        rw [slot_zeros _ (by omega)]
  rw [← hI2] at s2 l2
  have hg : ∀ t, t < 256 → gerrInd (slI I2 t) = 0 ∧ ((gotInd (slI I2 t)).k ≠ 0 ↔ twoT p q x y t) := fun t ht => by
    rw [hsl t ht]
    unfold twoT
    by_cases e : t = q
    · rw [if_pos e, gy1, gy2]
      refine ⟨rfl, fun h => .inr ⟨e, h⟩, fun h => ?_⟩
      rcases h with ⟨h, _⟩ | ⟨_, h⟩
      · omega
      · exact h
    · rw [if_neg e]
      by_cases e2 : t = p
      · rw [if_pos e2, gx1, gx2]
        refine ⟨rfl, fun h => .inl ⟨e2, h⟩, fun h => ?_⟩
        rcases h with ⟨_, h⟩ | ⟨h, _⟩
        · exact h
        · exact absurd h e
      · rw [if_neg e2, got_zeros.1, got_zeros.2]
        refine ⟨rfl, fun h => absurd rfl h, fun h => ?_⟩
        rcases h with ⟨h, _⟩ | ⟨h, _⟩
        · exact absurd h e2
        · exact absurd h e
  have hs : ∃ s, s ≤ 2 ∧ (∀ t, t < s → twoT p q x y t) ∧ ¬ twoT p q x y s := by
    by_cases h0 : twoT p q x y 0
    · by_cases h1 : twoT p q x y 1
      · refine ⟨2, by omega, fun t ht => ?_, fun h2 => ?_⟩
        · rcases t with _ | _ | t
          · exact h0
          · exact h1
          · omega
        · unfold twoT at h0 h1 h2
          omega
      · exact ⟨1, by omega, fun t ht => by rw [show t = 0 by omega]; exact h0, h1⟩
    · exact ⟨0, by omega, fun t ht => by omega, h0⟩
  obtain ⟨s, hs2, hs3, hs4⟩ := hs
  obtain ⟨d3, e3, n3, s3⟩ := s2.new n2 s (by omega) (fun t ht => ⟨(hg t (by omega)).1, (hg t (by omega)).2.2 (hs3 t ht)⟩) ⟨(hg s (by omega)).1, by
    have := (hg s (by omega)).2
    by_cases e : (gotInd (slI I2 s)).k = 0
    · exact e
    · exact absurd (this.1 e) hs4⟩ iX (by decide)
  obtain ⟨a1, a2, a3⟩ := s2.get n2 p hp
  obtain ⟨b1, b2, b3⟩ := s2.get n2 q hq
  obtain ⟨c1, c2, c3⟩ := s3.get n3 s (by omega)
  refine ⟨d1, d2, d3, s, e1, n1, e2, n2, ⟨a1, a2, ?_, ?_⟩, ⟨b1, b2, ?_, ?_⟩, e3, n3, ⟨c1, c2, ?_, ?_⟩, hs2, hs3, hs4⟩
  · rw [a3, hsl p hp, if_neg hpq, if_pos rfl]; exact gx1
  · rw [a3, hsl p hp, if_neg hpq, if_pos rfl]; exact gx2
  · rw [b3, hsl q hq, if_pos rfl]; exact gy1
  · rw [b3, hsl q hq, if_pos rfl]; exact gy2
  · rw [c3, slI_set _ _ _ _ (l2 _) gX3, if_pos rfl]; exact gX1
  · rw [c3, slI_set _ _ _ _ (l2 _) gX3, if_pos rfl]; exact gX2
end Go.Proofs.Ytahlhdhljjpeoaa

/- What BitsErrors looks at (plain). -/
namespace Go.Proofs.Ytahlhdhljjpeoaa
open Go.RowKit
set_option maxHeartbeats 1000000
set_option maxRecDepth 100000
set_option linter.unusedVariables false
set_option linter.unusedSimpArgs false

/-- The truths of the emptied space (slots of a loop are called u64 too). -/
abbrev em64 : List Bool := u64
def em1 (n : Nat) : List Bool := setU u64 23 n true
theorem err_bits : ∀ k : Fin 41, allocGo (k.val + 1) u64 (k.val + 1) [] = some (em1 (k.val + 1), [(23, k.val + 1)]) ∧ frB u64 23 (k.val + 1) = true ∧ frB (em1 (k.val + 1)) 23 (k.val + 1) = false ∧ setU (em1 (k.val + 1)) 23 (k.val + 1) false = u64 := by decide +kernel
theorem err_n (n : Nat) (h1 : 1 ≤ n) (h2 : n ≤ 41) : allocGo n u64 n [] = some (em1 n, [(23, n)]) ∧ frB u64 23 n = true ∧ frB (em1 n) 23 n = false ∧ setU (em1 n) 23 n false = u64 := by
  have := err_bits ⟨n - 1, by omega⟩
  simp only [show n - 1 + 1 = n by omega] at this
  exact this
theorem Pl.on {d : Pl} (h : d.ends = true) : d.tick = { d with left := d.left - 1 } ∧ d.spent = decide (d.left < 1) := by
  unfold Pl.tick Pl.spent
  rw [h]
  refine ⟨rfl, ?_⟩
  rw [Bool.true_and, decide_eq_decide]
  omega
/-- The space is right. -/
structure Er (u : List Bool) (d : Pl) (c : Nat) : Prop where
  sp : ∃ I, Sp d L64 u I ∧ OkS I 256 ∧ LenI I
  len : d.b.length = 64
  did : d.did ≤ c
theorem Er.bl {u : List Bool} {d : Pl} {c : Nat} (h : Er u d c) : rightL L64 = true → L64.bl = (d.b.length : Int) := fun _ => by rw [h.len]; rfl
theorem Er.of_b {u : List Bool} {d d' : Pl} {c c' : Nat} (h : Er u d c) (hb : d'.b = d.b) (hd : d'.did ≤ c') : Er u d' c' := by
  obtain ⟨I, h1, h2, h3⟩ := h.sp
  exact ⟨⟨I, h1.of_b hb, h2, h3⟩, by rw [hb]; exact h.len, hd⟩
theorem Er.lu {u : List Bool} {d : Pl} {c : Nat} (h : Er u d c) : u.length = 64 := by
  obtain ⟨I, h1, _⟩ := h.sp
  rw [h1.len, h.len]
theorem em1_len (n : Nat) : (em1 n).length = 64 := by unfold em1; rw [setU_length]; decide
theorem em1_first (n : Nat) : ∀ k, k < L64.da.toNat → (em1 n).getD k false = true := fun k hk => by
  have hk : k < 23 := hk
  unfold em1
  rw [setU_getD _ _ _ _ _ (by show k < u64.length; rw [show u64.length = 64 by decide]; omega), if_neg (by omega), u64, emu_at _ _ _ _ (by omega)]
  exact decide_eq_true hk
theorem u64_first : ∀ k, k < L64.da.toNat → u64.getD k false = true := fun k hk => by
  have hk : k < 23 := hk
  rw [u64, emu_at _ _ _ _ (by omega)]
  exact decide_eq_true hk
theorem Er.putB {u u' : List Bool} {d d0 : Pl} {c : Nat} (h : Er u d c) (hb : d0.b = d.b) (hd : d0.did ≤ c) (hl : u'.length = 64) (hf : ∀ k, k < L64.da.toNat → u'.getD k false = true) : Er u' (d0.put L64.bi.toNat (wrB u')) (c + 1) := by
  obtain ⟨I, h1, h2, h3⟩ := h.sp
  exact ⟨⟨I, (h1.of_b hb).putBits (by rw [hl, h.lu]) hf, h2, h3⟩, by simp [Pl.put, hb, h.len], Nat.succ_le_succ hd⟩
theorem Er.putX {u : List Bool} {d d0 : Pl} {c : Nat} (h : Er u d c) (hb : d0.b = d.b) (hd : d0.did ≤ c) (s : Nat) (hs : s < 256) (own : List UInt8) (ho : own.length = 64) (hg : gerrInd own = 0) :
    ∃ I, Sp d L64 u I ∧ OkS I 256 ∧ LenI I ∧ Er u (d0.put (L64.ino.toNat + s / 64) (splice (I (s / 64)) (s % 64 * 64) own)) (c + 1) ∧ Sp (d0.put (L64.ino.toNat + s / 64) (splice (I (s / 64)) (s % 64 * 64) own)) L64 u (setI I s own) := by
  obtain ⟨I, h1, h2, h3⟩ := h.sp
  have h4 := (h1.of_b hb).putS s hs own
  exact ⟨I, h1, h2, h3, ⟨⟨_, h4, h2.set (h3 _) ho hg, h3.set s own ho⟩, by simp [Pl.put, hb, h.len], Nat.succ_le_succ hd⟩, h4⟩
theorem tick_did (d : Pl) : d.tick.did = d.did ∧ d.tick.b = d.b ∧ d.tick.ends = d.ends ∧ d.left - 1 ≤ d.tick.left ∧ d.tick.left ≤ d.left := by
  have h := tick_b d
  refine ⟨h.2.2, h.1, h.2.1, ?_, ?_⟩ <;> (unfold Pl.tick; split <;> first | (exact Int.le_refl _) | (show _ - _ ≤ _; omega) | omega)
theorem Er.alc_on {d : Pl} {c n : Nat} (h : Er u64 d c) (he : d.ends = true) (h1 : 1 ≤ n) (h2 : n ≤ 41) :
    ∃ d' o, alcP d L64 n = (d', o, if d.left < 2 then 4 else 0) ∧ (Er u64 d' (c + 1) ∨ Er (em1 n) d' (c + 1)) ∧ d.left - 2 ≤ d'.left ∧ d'.left ≤ d.left := by
  obtain ⟨I, s1, s2, s3⟩ := h.sp
  obtain ⟨g1, g2, g3, g4⟩ := err_n n h1 h2
  have hok : alOk L64 (n : Int) = true := decide_eq_true (by show 1 ≤ (n : Int) ∧ (n : Int) ≤ 64; omega)
  have t1 := tick_did d
  have t2 := tick_did d.tick
  unfold alcP
  rw [if_pos L64_right, if_pos hok]
  obtain ⟨o1, o2⟩ := Pl.on he
  obtain ⟨p1, p2⟩ := Pl.on (t1.2.2.1.trans he)
  by_cases c1 : d.left < 1
  · have hE : usedE d L64 = 4 := by rw [s1.usedE, o2, decide_eq_true c1]; rfl
    rw [hE, if_neg (by decide), if_pos (by omega)]
    exact ⟨_, _, rfl, .inl (h.of_b t1.2.1 (by rw [t1.1]; exact Nat.le_succ_of_le h.did)), by omega, by omega⟩
  · have hs : d.spent = false := by rw [o2]; exact decide_eq_false c1
    rw [(s1.usedU hs).1, if_pos rfl, (s1.usedU hs).2, Int.toNat_natCast, g1]
    dsimp only
    have hl : d.tick.left = d.left - 1 := by rw [o1]
    by_cases c2 : d.left < 2
    · rw [p2, hl, decide_eq_true (by omega), if_pos rfl, if_pos c2]
      exact ⟨_, _, rfl, .inl (h.of_b (t2.2.1.trans t1.2.1) (by rw [t2.1, t1.1]; exact Nat.le_succ_of_le h.did)), by omega, by omega⟩
    · rw [p2, hl, decide_eq_false (by omega), if_neg (by decide), if_neg c2]
      exact ⟨_, _, rfl, .inr (h.putB (t2.2.1.trans t1.2.1) (by rw [t2.1, t1.1]; exact h.did) (em1_len n) (em1_first n)), by show _ ≤ d.tick.tick.left; omega, by show d.tick.tick.left ≤ _; omega⟩
theorem Er.fre_on {d : Pl} {c n : Nat} (h : Er (em1 n) d c) (he : d.ends = true) (h1 : 1 ≤ n) (h2 : n ≤ 41) :
    ∃ d', freP d L64 23 n = (d', if d.left < 2 then 4 else 0) ∧ (Er u64 d' (c + 1) ∨ Er (em1 n) d' (c + 1)) ∧ d.left - 2 ≤ d'.left ∧ d'.left ≤ d.left := by
  obtain ⟨I, s1, s2, s3⟩ := h.sp
  obtain ⟨g1, g2, g3, g4⟩ := err_n n h1 h2
  have hok : frOk L64 (23 : Int) (n : Int) = true := decide_eq_true (by show (23 : Int) ≤ 23 ∧ (23 : Int) < 64 ∧ 1 ≤ (n : Int) ∧ (n : Int) ≤ 64 - 23; omega)
  have t1 := tick_did d
  have t2 := tick_did d.tick
  unfold freP
  rw [if_pos L64_right, if_pos hok]
  obtain ⟨o1, o2⟩ := Pl.on he
  obtain ⟨p1, p2⟩ := Pl.on (t1.2.2.1.trans he)
  by_cases c1 : d.left < 1
  · have hE : usedE d L64 = 4 := by rw [s1.usedE, o2, decide_eq_true c1]; rfl
    rw [hE, if_neg (by decide), if_pos (by omega)]
    exact ⟨_, rfl, .inr (h.of_b t1.2.1 (by rw [t1.1]; exact Nat.le_succ_of_le h.did)), by omega, by omega⟩
  · have hs : d.spent = false := by rw [o2]; exact decide_eq_false c1
    rw [(s1.usedU hs).1, if_pos rfl, (s1.usedU hs).2, Int.toNat_natCast, show (23 : Int).toNat = 23 from rfl, g3, if_neg (by decide), g4]
    unfold wrBit
    have hl : d.tick.left = d.left - 1 := by rw [o1]
    by_cases c2 : d.left < 2
    · rw [p2, hl, decide_eq_true (by omega), if_pos rfl, if_pos c2]
      exact ⟨_, rfl, .inr (h.of_b (t2.2.1.trans t1.2.1) (by rw [t2.1, t1.1]; exact Nat.le_succ_of_le h.did)), by omega, by omega⟩
    · rw [p2, hl, decide_eq_false (by omega), if_neg (by decide), if_neg c2]
      exact ⟨_, rfl, .inl (h.putB (t2.2.1.trans t1.2.1) (by rw [t2.1, t1.1]; exact h.did) (by decide) u64_first), by show _ ≤ d.tick.tick.left; omega, by show d.tick.tick.left ≤ _; omega⟩
/-- Without an end: what is freed and found. -/
theorem Er.fre_off {u : List Bool} {d : Pl} {c n : Nat} (h : Er u d c) (hu : u = u64 ∨ u = em1 n) (he : d.ends = false) (h1 : 1 ≤ n) (h2 : n ≤ 41) :
    ∃ d' E, freP d L64 23 n = (d', E) ∧ Er u64 d' (c + 1) ∧ d'.ends = false ∧ d'.left = d.left := by
  obtain ⟨I, s1, s2, s3⟩ := h.sp
  obtain ⟨g1, g2, g3, g4⟩ := err_n n h1 h2
  rcases s1.fre he 23 n (by decide) h1 (by rw [h.lu]; omega) with ⟨e1, e2⟩ | ⟨e1, e2, e3⟩
  · rcases hu with rfl | rfl
    · exact ⟨d, 30, e2, h.of_b rfl (Nat.le_succ_of_le h.did), he, rfl⟩
    · rw [g3] at e1; cases e1
  · rcases hu with rfl | rfl
    · rw [g2] at e1; cases e1
    · rw [g4] at e2 e3
      exact ⟨_, 0, e2, h.putB rfl h.did (by decide) u64_first, he, rfl⟩
theorem Er.alc_off {d : Pl} {c n : Nat} (h : Er u64 d c) (he : d.ends = false) (h1 : 1 ≤ n) (h2 : n ≤ 41) :
    ∃ d' o E, alcP d L64 n = (d', o, E) ∧ Er (em1 n) d' (c + 1) ∧ d'.ends = false ∧ d'.left = d.left := by
  obtain ⟨I, s1, s2, s3⟩ := h.sp
  obtain ⟨g1, g2, g3, g4⟩ := err_n n h1 h2
  obtain ⟨e1, e2⟩ := alc_some s1 he n h1 (by rw [h.lu]; omega) g1
  exact ⟨_, _, 0, e1, h.putB rfl h.did (em1_len n) (em1_first n), he, rfl⟩
theorem Er.ino_on {u : List Bool} {d : Pl} {c s : Nat} (h : Er u d c) (he : d.ends = true) (hs : s < 256) :
    (d.left < 1 → whE d L64 ((1 + s : Nat) : Int) = 4) ∧ (¬ d.left < 1 → whE d L64 ((1 + s : Nat) : Int) = 0 ∧ gerrInd (inPart d L64 ((1 + s : Nat) : Int)) = 0) ∧ Er u (whD d L64 ((1 + s : Nat) : Int)) c ∧ d.left - 1 ≤ (whD d L64 ((1 + s : Nat) : Int)).left ∧ (whD d L64 ((1 + s : Nat) : Int)).left ≤ d.left := by
  obtain ⟨I, s1, s2, s3⟩ := h.sp
  obtain ⟨a, b, c1, c2⟩ := s1.whG (1 + s) (by omega) (by show 1 + s ≤ 256; omega)
  obtain ⟨o1, o2⟩ := Pl.on he
  have t1 := tick_did d
  rw [b]
  refine ⟨fun hl => ?_, fun hl => ⟨?_, ?_⟩, h.of_b t1.2.1 (by rw [t1.1]; exact h.did), by omega, by omega⟩
  · rw [a, o2, decide_eq_true hl]; rfl
  · rw [a, o2, decide_eq_false hl]; rfl
  · rw [c2 (by rw [o2]; exact decide_eq_false hl), show 1 + s - 1 = s by omega]
    exact s2 s hs
theorem Er.sei_on {u : List Bool} {d : Pl} {c s : Nat} (h : Er u d c) (he : d.ends = true) (hs : s < 256) (x : Ind) (hx : okInd x = true) :
    ∃ d', seiP d L64 ((1 + s : Nat) : Int) x = (d', if d.left < 2 then 4 else 0) ∧ Er u d' (c + 1) ∧ d.left - 2 ≤ d'.left ∧ d'.left ≤ d.left := by
  obtain ⟨gx1, gx2, gx3⟩ := okInd_got hx
  have t1 := tick_did d
  have t2 := tick_did d.tick
  obtain ⟨I, s1, s2, s3, e1, e2⟩ := h.putX (t2.2.1.trans t1.2.1) (by rw [t2.1, t1.1]; exact h.did) s hs (putInd x) gx3 gx2
  have e := s1.seiG (1 + s) (by omega) (by show 1 + s ≤ 256; omega) x hx
  rw [show 1 + s - 1 = s by omega] at e
  obtain ⟨o1, o2⟩ := Pl.on he
  obtain ⟨p1, p2⟩ := Pl.on (t1.2.2.1.trans he)
  have hl : d.tick.left = d.left - 1 := by rw [o1]
  rw [e, o2, p2, hl]
  by_cases c1 : d.left < 1
  · rw [decide_eq_true c1, if_pos rfl, if_pos (by omega)]
    exact ⟨_, rfl, h.of_b t1.2.1 (by rw [t1.1]; exact Nat.le_succ_of_le h.did), by omega, by omega⟩
  · rw [decide_eq_false c1, if_neg (by decide)]
    by_cases c2 : d.left < 2
    · rw [decide_eq_true (by omega), if_pos rfl, if_pos c2]
      exact ⟨_, rfl, h.of_b (t2.2.1.trans t1.2.1) (by rw [t2.1, t1.1]; exact Nat.le_succ_of_le h.did), by omega, by omega⟩
    · rw [decide_eq_false (by omega), if_neg (by decide), if_neg c2]
      exact ⟨_, rfl, e1, by show _ ≤ d.tick.tick.left; omega, by show d.tick.tick.left ≤ _; omega⟩
def i0 : Ind := ⟨0, 0, 0, 0, []⟩
/-- The first inode is unused then. -/
theorem Er.sei_off {u : List Bool} {d : Pl} {c : Nat} (h : Er u d c) (he : d.ends = false) :
    ∃ d' I, seiP d L64 1 i0 = (d', 0) ∧ Er u d' (c + 1) ∧ Sp d' L64 u I ∧ OkS I 256 ∧ LenI I ∧ gerrInd (slI I 0) = 0 ∧ (gotInd (slI I 0)).k = 0 ∧ d'.ends = false ∧ d'.left = d.left := by
  have hx : okInd i0 = true := by decide
  obtain ⟨gx1, gx2, gx3⟩ := okInd_got hx
  obtain ⟨I, s1, s2, s3, e1, e2⟩ := h.putX (d0 := d) rfl h.did 0 (by omega) (putInd i0) gx3 gx2
  have e := s1.seiG 1 (by omega) (by decide) i0 hx
  obtain ⟨ht, hs⟩ := Pl.off he
  simp only [ht, hs, Bool.false_eq_true, if_false] at e
  have hsl : slI (setI I 0 (putInd i0)) 0 = putInd i0 := by rw [slI_set _ _ _ _ (s3 _) gx3, if_pos rfl]
  exact ⟨_, _, e, e1, e2, s2.set (s3 _) gx3 gx2, s3.set _ _ gx3, by rw [hsl]; exact gx2, by rw [hsl, gx1]; rfl, he, rfl⟩
theorem Er.new_on {u : List Bool} {d : Pl} {c : Nat} {I : Nat → List UInt8} (h : Er u d c) (s1 : Sp d L64 u I) (s2 : OkS I 256) (s3 : LenI I) (h0 : gerrInd (slI I 0) = 0) (h1 : (gotInd (slI I 0)).k = 0) (he : d.ends = true) (x : Ind) (hx : niOk x = true) :
    ∃ d' m, newP d L64 x = (d', m, if d.left < 2 then 4 else 0) ∧ Er u d' (c + 1) ∧ d.left - 2 ≤ d'.left ∧ d'.left ≤ d.left := by
  have hxo : okInd x = true := by unfold niOk at hx; simp only [Bool.and_eq_true] at hx; exact hx.1
  obtain ⟨gx1, gx2, gx3⟩ := okInd_got hxo
  have t1 := tick_did d
  have t2 := tick_did d.tick
  obtain ⟨o1, o2⟩ := Pl.on he
  obtain ⟨p1, p2⟩ := Pl.on (t1.2.2.1.trans he)
  have hl : d.tick.left = d.left - 1 := by rw [o1]
  by_cases c1 : d.left < 1
  · have hs : d.spent = true := by rw [o2]; exact decide_eq_true c1
    refine ⟨d.tick, 0, ?_, h.of_b t1.2.1 (by rw [t1.1]; exact Nat.le_succ_of_le h.did), by omega, by omega⟩
    unfold newP
    rw [if_pos L64_right, if_pos hx, show L64.ib.toNat = 3 + 1 from rfl]
    unfold newGo
    rw [hs, if_pos rfl, if_pos (by omega)]
  · have hs : d.spent = false := by rw [o2]; exact decide_eq_false c1
    have e := s1.newAt hs 0 (.inr (by omega)) (by decide) (fun t ht => by omega) ⟨h0, h1⟩ x hx
    rw [p2, hl] at e
    rw [e]
    by_cases c2 : d.left < 2
    · rw [decide_eq_true (by omega), if_pos rfl, if_pos c2]
      exact ⟨_, _, rfl, h.of_b (t2.2.1.trans t1.2.1) (by rw [t2.1, t1.1]; exact Nat.le_succ_of_le h.did), by omega, by omega⟩
    · rw [decide_eq_false (by omega), if_neg (by decide), if_neg c2]
      have h4 := (s1.of_b (t2.2.1.trans t1.2.1)).putS 0 (by decide) (putInd x)
      exact ⟨_, _, rfl, ⟨⟨_, h4, s2.set (s3 _) gx3 gx2, s3.set _ _ gx3⟩, by simp [Pl.put, t2.2.1, t1.2.1, h.len], by show d.tick.tick.did + 1 ≤ c + 1; rw [t2.1, t1.1]; exact Nat.succ_le_succ h.did⟩, by show _ ≤ d.tick.tick.left; omega, by show d.tick.tick.left ≤ _; omega⟩
theorem lefGo_on {l : Lay} (I : Nat → List UInt8) : ∀ (m k : Nat) (d : Pl) (c : Nat), d.ends = true → 0 ≤ d.left → (∀ i, k ≤ i → i < k + m → d.b.getD (l.ino.toNat + i) [] = I i) → (∀ i, k ≤ i → i < k + m → ∀ j, j < 64 → gerrInd (slotB (I i) j) = 0) →
    (lefGo l.ino.toNat m k d c).1.b = d.b ∧ (lefGo l.ino.toNat m k d c).1.did = d.did ∧ d.left - m - 1 ≤ (lefGo l.ino.toNat m k d c).1.left ∧ (lefGo l.ino.toNat m k d c).1.left ≤ d.left ∧ (lefGo l.ino.toNat m k d c).2.2 = if d.left < m then 4 else 0
  | 0, k, d, c, he, h0, hI, hk => by
    refine ⟨rfl, rfl, ?_, Int.le_refl _, ?_⟩
    · show d.left - ((0 : Nat) : Int) - 1 ≤ d.left; omega
    · rw [if_neg (by omega)]; rfl
  | m + 1, k, d, c, he, h0, hI, hk => by
    obtain ⟨o1, o2⟩ := Pl.on he
    have t1 := tick_did d
    unfold lefGo
    by_cases c1 : d.left < 1
    · rw [o2, decide_eq_true c1, if_pos rfl]
      exact ⟨t1.2.1, t1.1, by show _ ≤ d.tick.left; omega, by show d.tick.left ≤ _; omega, by rw [if_pos (by omega)]⟩
    · have hl : d.tick.left = d.left - 1 := by rw [o1]
      rw [o2, decide_eq_false c1, if_neg (by decide), hI k (by omega) (by omega), if_pos (cntGo_ok _ 64 0 c rfl (hk k (by omega) (by omega)))]
      obtain ⟨a1, a2, a3, a4, a5⟩ := lefGo_on I m (k + 1) d.tick (cntGo (I k) 64 0 c).1 (t1.2.2.1.trans he) (by omega) (fun i h1 h2 => by rw [t1.2.1]; exact hI i (by omega) (by omega)) (fun i h1 h2 => hk i (by omega) (by omega))
      refine ⟨a1.trans t1.2.1, a2.trans t1.1, by omega, by omega, ?_⟩
      rw [a5, hl]
      by_cases c2 : d.left < ((m + 1 : Nat) : Int)
      · rw [if_pos c2, if_pos (by omega)]
      · rw [if_neg c2, if_neg (by omega)]
theorem Er.lef_on {u : List Bool} {d : Pl} {c : Nat} (h : Er u d c) (he : d.ends = true) (h0 : 0 ≤ d.left) :
    ∃ d' a b, lefP d L64 = (d', a, b, if d.left < 5 then 4 else 0) ∧ Er u d' c ∧ d.left - 6 ≤ d'.left ∧ d'.left ≤ d.left := by
  obtain ⟨I, s1, s2, s3⟩ := h.sp
  obtain ⟨o1, o2⟩ := Pl.on he
  have t1 := tick_did d
  unfold lefP
  by_cases c1 : d.left < 1
  · have hE : usedE d L64 = 4 := by rw [s1.usedE, o2, decide_eq_true c1]; rfl
    rw [hE, if_neg (by decide), s1.usedD, if_pos (by omega)]
    exact ⟨_, _, _, rfl, h.of_b t1.2.1 (by rw [t1.1]; exact h.did), by omega, by omega⟩
  · have hs : d.spent = false := by rw [o2]; exact decide_eq_false c1
    have hl : d.tick.left = d.left - 1 := by rw [o1]
    obtain ⟨a1, a2, a3, a4, a5⟩ := lefGo_on (l := L64) I L64.ib.toNat 0 d.tick 0 (t1.2.2.1.trans he) (by omega) (fun i h1 h2 => by rw [t1.2.1]; exact s1.ino i (by omega)) (fun i h1 h2 => (show OkS I (64 * 4) from s2).toI i (by have : L64.ib.toNat = 4 := rfl; omega))
    rw [(s1.usedU hs).1, if_pos rfl, s1.usedD, a5, hl]
    have h4 : ((L64.ib.toNat : Nat) : Int) = 4 := rfl
    rw [h4] at a3 a5 ⊢
    have e := h.of_b (a1.trans t1.2.1) (by rw [a2, t1.1]; exact h.did)
    by_cases c2 : d.left < 5
    · rw [if_pos (by omega : d.left - 1 < 4), if_neg (by decide), if_pos c2]
      exact ⟨_, _, _, rfl, e, by show _ ≤ _; omega, by show _ ≤ _; omega⟩
    · rw [if_neg (by omega : ¬ d.left - 1 < 4), if_pos rfl, if_neg c2]
      exact ⟨_, _, _, rfl, e, by show _ ≤ _; omega, by show _ ≤ _; omega⟩
theorem Er.use_on {u : List Bool} {d : Pl} {c : Nat} (h : Er u d c) (he : d.ends = true) :
    usedE d L64 = (if d.left < 1 then 4 else 0) ∧ Er u (usedD d L64) c ∧ d.left - 1 ≤ (usedD d L64).left ∧ (usedD d L64).left ≤ d.left := by
  obtain ⟨I, s1, s2, s3⟩ := h.sp
  obtain ⟨o1, o2⟩ := Pl.on he
  have t1 := tick_did d
  rw [s1.usedD, s1.usedE, o2]
  refine ⟨?_, h.of_b t1.2.1 (by rw [t1.1]; exact h.did), by omega, by omega⟩
  by_cases c1 : d.left < 1
  · rw [decide_eq_true c1, if_pos rfl, if_pos c1]
  · rw [decide_eq_false c1, if_neg (by decide), if_neg c1]
theorem emRun_on : ∀ (ws : List (Nat × List UInt8)) (d : Pl), d.ends = true → 0 ≤ d.left →
    (emRun d ws).2 = (if d.left < ws.length then 4 else 0) ∧ (emRun d ws).1.b.length = d.b.length ∧ (emRun d ws).1.did ≤ d.did + ws.length ∧ d.left - ws.length - 1 ≤ (emRun d ws).1.left ∧ (emRun d ws).1.left ≤ d.left
  | [], d, he, h0 => by
    refine ⟨?_, rfl, Nat.le_refl _, ?_, Int.le_refl _⟩
    · rw [if_neg (by simp; omega)]; rfl
    · show d.left - ((0 : Nat) : Int) - 1 ≤ d.left; omega
  | x :: xs, d, he, h0 => by
    obtain ⟨o1, o2⟩ := Pl.on he
    have t1 := tick_did d
    unfold emRun
    by_cases c1 : d.left < 1
    · rw [o2, decide_eq_true c1, if_pos rfl]
      refine ⟨by rw [if_pos (by simp only [List.length_cons]; omega)], by show d.tick.b.length = _; rw [t1.2.1], by show d.tick.did ≤ _; rw [t1.1]; omega, by show _ ≤ d.tick.left; omega, by show d.tick.left ≤ _; omega⟩
    · have hl : d.tick.left = d.left - 1 := by rw [o1]
      rw [o2, decide_eq_false c1, if_neg (by decide)]
      obtain ⟨a1, a2, a3, a4, a5⟩ := emRun_on xs (d.tick.put x.1 x.2) (t1.2.2.1.trans he) (by show 0 ≤ d.tick.left; omega)
      have hp : (d.tick.put x.1 x.2).left = d.tick.left := rfl
      have hb : (d.tick.put x.1 x.2).b.length = d.b.length := by simp [Pl.put, t1.2.1]
      have hd : (d.tick.put x.1 x.2).did = d.did + 1 := by simp [Pl.put, t1.1]
      rw [hp, hl] at a1 a4 a5
      simp only [List.length_cons]
      refine ⟨?_, a2.trans hb, by omega, by omega, by omega⟩
      rw [a1]
      by_cases c2 : d.left < ((xs.length + 1 : Nat) : Int)
      · rw [if_pos c2, if_pos (by omega)]
      · rw [if_neg c2, if_neg (by omega)]
end Go.Proofs.Ytahlhdhljjpeoaa

/- A space, and what lies beside it. -/
namespace Go.Proofs.Ytahlhdhljjpeoaa
open Go.RowKit
set_option maxHeartbeats 3200000
set_option maxRecDepth 100000
set_option linter.unusedVariables false
set_option linter.unusedSimpArgs false

structure StR (wA : World) (rows : List (Nat × Array Value × TypeId)) (w : World) (P : Nat) (S : Nat → Prop) (d : Pl) : Prop where
  i : IsPl QT wA.heap.size w P S d
  b : Below wA.heap.size wA w
  r : ∀ x ∈ rows, w.heap[x.1]? = some (.cells x.2.1 x.2.2 (0, 0)) ∧ x.2.2 ≠ 50 ∧ x.2.2 ≠ 61 ∧ x.2.2 ≠ 3
theorem StR.kpt {wA w w' : World} {rows : List (Nat × Array Value × TypeId)} {P : Nat} {S S' : Nat → Prop} {d d' : Pl} (h : StR wA rows w P S d) (i : IsPl QT wA.heap.size w' P S' d') (k : Kpt S w w') : StR wA rows w' P S' d' :=
  ⟨i, below_kptS h.i h.b k, fun x hx => by
    obtain ⟨h1, h2, h3, h4⟩ := h.r x hx
    exact ⟨row_kptS h.i h1 k h2 h3 h4, h2, h3, h4⟩⟩
theorem StR.below {wA w w' : World} {rows : List (Nat × Array Value × TypeId)} {P : Nat} {S : Nat → Prop} {d : Pl} (h : StR wA rows w P S d) (b : Below w.heap.size w w') : StR wA rows w' P S d :=
  ⟨h.i.below b, h.b.trans (b.mono h.b.size), fun x hx => by
    obtain ⟨h1, h2⟩ := h.r x hx
    exact ⟨(b.block _ (heap_in h1)).trans h1, h2⟩⟩
theorem StR.row {wA w : World} {rows : List (Nat × Array Value × TypeId)} {P : Nat} {S : Nat → Prop} {d : Pl} (h : StR wA rows w P S d) {x : Nat × Array Value × TypeId} (hx : x ∈ rows) : w.heap[x.1]? = some (.cells x.2.1 x.2.2 (0, 0)) := (h.r x hx).1
/-- The end is set. -/
theorem IsPl.setE {Q : Nat → Prop} {base : Nat} {w : World} {P : Nat} {S : Nat → Prop} {d : Pl} (h : IsPl Q base w P S d) (e : Bool) :
    IsPl Q base (w.setCell ⟨P, 1, none⟩ (.bool e)) P S { d with ends := e } ∧ Kpt (fun b => b = P) w (w.setCell ⟨P, 1, none⟩ (.bool e)) := by
  have k : Kpt (fun b => b = P) w (w.setCell ⟨P, 1, none⟩ (.bool e)) := Kpt.setCell (Kpt.refl (fun b => b = P) w) rfl _
  have hnu : ∀ b, b = P → ¬ U8 w b := by rintro b rfl; exact h.nou _ h.inS
  obtain ⟨vb, vd, rfl, hP, hr, hp, ho⟩ := h
  obtain ⟨⟨xs, gs, cs, a1, a2, a3⟩, ⟨xd, A, c, b1, b2⟩⟩ := hp
  exact ⟨⟨vb, vd, rfl, hP, heap_setCell_same _ _ 1 _ _ _ hr, ⟨⟨xs, gs, cs, a1, own_kpt a2 k (own_noT a2 hr (by decide)), a3.kpt k hnu⟩, ⟨xd, A, c, b1, own_kpt b2 k (own_noT b2 hr (by decide))⟩⟩, ⟨ho.pos, ho.max, ho.b4, ho.lo, ho.hi⟩⟩, k⟩
theorem StR.setE {wA w : World} {rows : List (Nat × Array Value × TypeId)} {P : Nat} {S : Nat → Prop} {d : Pl} (h : StR wA rows w P S d) (e : Bool) : StR wA rows (w.setCell ⟨P, 1, none⟩ (.bool e)) P S { d with ends := e } := by
  obtain ⟨i, k⟩ := h.i.setE e
  exact h.kpt i (k.mono (by rintro b rfl; exact h.i.inS))
theorem StR.setL {wA w : World} {rows : List (Nat × Array Value × TypeId)} {P : Nat} {S : Nat → Prop} {d : Pl} (h : StR wA rows w P S d) (x : Int) (hx : -1000000000 ≤ x ∧ x ≤ 1000000000) : StR wA rows (w.setCell ⟨P, 2, none⟩ (.int .i64 x)) P S { d with left := x } := by
  obtain ⟨i, k⟩ := h.i.setLeft x hx
  exact h.kpt i (k.mono (by rintro b rfl; exact h.i.inS))
theorem StR.setEL {wA w : World} {rows : List (Nat × Array Value × TypeId)} {P : Nat} {S : Nat → Prop} {d : Pl} (h : StR wA rows w P S d) (e : Bool) (x : Int) (hx : -1000000000 ≤ x ∧ x ≤ 1000000000) : StR wA rows ((w.setCell ⟨P, 1, none⟩ (.bool e)).setCell ⟨P, 2, none⟩ (.int .i64 x)) P S { d with ends := e, left := x } :=
  (h.setE e).setL x hx
/-- The space's cells, for a store. -/
theorem StR.cellsP {wA w : World} {rows : List (Nat × Array Value × TypeId)} {P : Nat} {S : Nat → Prop} {d : Pl} (h : StR wA rows w P S d) : w.cell? ⟨P, 1, none⟩ = some (.bool d.ends) ∧ w.cell? ⟨P, 2, none⟩ = some (.int .i64 d.left) ∧ w.frozen? ⟨P, 1, none⟩ = false ∧ w.frozen? ⟨P, 2, none⟩ = false := by
  obtain ⟨gb, cb, vd, _, hr⟩ := h.i.open4
  obtain ⟨q0, q1, q2, q3⟩ := four hr
  exact ⟨q1, q2, frow hr 1, frow hr 2⟩
end Go.Proofs.Ytahlhdhljjpeoaa
