/- Extents: what is found, counted, cut, put in: plain laws. -/
import Derived.Test.YtahlhdhljjpeoaaExt
namespace Go.Proofs.Ytahlhdhljjpeoaa
set_option linter.unusedVariables false
set_option linter.unusedSimpArgs false

/-- Are extents right, from a block of the file on? -/
def rf (e : Int) : List Ext → Bool
  | [] => true
  | x :: l => !x.bad e && rf (x.at_ + x.ct) l
theorem bad_no {e : Int} {x : Ext} : x.bad e = false ↔ 1 ≤ x.ct ∧ e ≤ x.at_ ∧ 1 ≤ x.st ∧ x.ct ≤ 512 ∧ x.at_ + x.ct ≤ 512 ∧ x.st + x.ct ≤ 512 := by
  simp only [Ext.bad, decide_eq_false_iff_not]
  omega
theorem rf_cons {e : Int} {x : Ext} {l : List Ext} : rf e (x :: l) = true ↔ (1 ≤ x.ct ∧ e ≤ x.at_ ∧ 1 ≤ x.st ∧ x.ct ≤ 512 ∧ x.at_ + x.ct ≤ 512 ∧ x.st + x.ct ≤ 512) ∧ rf (x.at_ + x.ct) l = true := by
  rw [rf, Bool.and_eq_true, Bool.not_eq_true', bad_no]
/-- The end behind k of them, from e on. -/
def endE (e : Int) (l : List Ext) (k : Nat) : Int := if k = 0 then e else (xat l (k - 1)).at_ + (xat l (k - 1)).ct
theorem badTo_iff (l : List Ext) : ∀ n, badTo l n = false ↔ ∀ k, k < n → (xat l k).bad (endE 0 l k) = false
  | 0 => by simp [badTo]
  | n + 1 => by
    have ih := badTo_iff l n
    have e : badTo l (n + 1) = (badTo l n || (xat l n).bad (endE 0 l n)) := rfl
    rw [e, Bool.or_eq_false_iff, ih]
    constructor
    · rintro ⟨h1, h2⟩ k hk
      by_cases e : k = n
      · subst e; exact h2
      · exact h1 k (by omega)
    · intro h
      exact ⟨fun k hk => h k (by omega), h n (by omega)⟩
theorem xat_succ (x : Ext) (l : List Ext) (k : Nat) : xat (x :: l) (k + 1) = xat l k := rfl
theorem rf_iff : ∀ (l : List Ext) (e : Int), rf e l = true ↔ ∀ k, k < l.length → (xat l k).bad (endE e l k) = false
  | [], e => by simp [rf]
  | x :: l, e => by
    have ih := rf_iff l (x.at_ + x.ct)
    rw [rf, Bool.and_eq_true, Bool.not_eq_true', ih]
    have hs : ∀ k, endE e (x :: l) (k + 1) = endE (x.at_ + x.ct) l k := by
      intro k
      cases k with
      | zero => rfl
      | succ k => simp [endE, xat_succ]
    constructor
    · rintro ⟨h1, h2⟩ k hk
      cases k with
      | zero => exact h1
      | succ k => rw [xat_succ, hs]; exact h2 k (by simpa using hk)
    · intro h
      refine ⟨h 0 (by simp), fun k hk => ?_⟩
      have := h (k + 1) (by simpa using hk)
      rwa [xat_succ, hs] at this
theorem rightX_rf (l : List Ext) : rightX l = rf 0 l := by
  rw [Bool.eq_iff_iff, rf_iff, ← badTo_iff]
  simp [rightX]

/-- A block of the file: where it lies. -/
def fnd (n : Int) : List Ext → Option Int
  | [] => none
  | x :: l => if x.at_ ≤ n ∧ n < x.at_ + x.ct then some (x.st + n - x.at_) else fnd n l
def cntX : List Ext → Int
  | [] => 0
  | x :: l => x.ct + cntX l
def endF (e : Int) : List Ext → Int
  | [] => e
  | x :: l => endF (x.at_ + x.ct) l
theorem rf_app : ∀ (a b : List Ext) (e : Int), rf e (a ++ b) = (rf e a && rf (endF e a) b)
  | [], b, e => by simp [rf, endF]
  | x :: a, b, e => by simp [rf, endF, rf_app a b, Bool.and_assoc]
theorem fnd_app (n : Int) : ∀ (a b : List Ext), fnd n (a ++ b) = (fnd n a).or (fnd n b)
  | [], b => by simp [fnd]
  | x :: a, b => by
    simp only [List.cons_append, fnd]
    split
    · rfl
    · exact fnd_app n a b
theorem cnt_app : ∀ (a b : List Ext), cntX (a ++ b) = cntX a + cntX b
  | [], b => by simp [cntX]
  | x :: a, b => by simp only [List.cons_append, cntX, cnt_app a b]; omega
theorem endF_ge : ∀ (l : List Ext) (e : Int), rf e l = true → e ≤ endF e l
  | [], e, _ => Int.le_refl _
  | x :: l, e, h => by
    have h' := rf_cons.1 h
    have := endF_ge l _ h'.2
    simp only [endF]
    omega
theorem fnd_lt (n : Int) : ∀ (l : List Ext) (e : Int), rf e l = true → ∀ v, fnd n l = some v → e ≤ n ∧ n < endF e l
  | [], e, _, v, h => by simp [fnd] at h
  | x :: l, e, h, v, hv => by
    have h' := rf_cons.1 h
    have h2 := endF_ge l _ h'.2
    simp only [fnd] at hv
    simp only [endF]
    split at hv
    · omega
    · have := fnd_lt n l _ h'.2 v hv
      omega
theorem rf_mono : ∀ (l : List Ext) {e e' : Int}, rf e l = true → e' ≤ e → rf e' l = true
  | [], _, _, _, _ => rfl
  | x :: l, e, e', h, he => by
    have h' := rf_cons.1 h
    exact rf_cons.2 ⟨by omega, h'.2⟩
/-- Where two extents join, one serves. -/
def joinsX (a b : Ext) : Bool := decide (a.at_ + a.ct = b.at_ ∧ a.st + a.ct = b.st)
def merge (a b : Ext) : Ext := ⟨a.at_, a.st, a.ct + b.ct⟩
theorem merge_rf {a b : Ext} {t : List Ext} {e : Int} (h : rf e (a :: b :: t) = true) (he : 0 ≤ e) (hj : joinsX a b = true) : rf e (merge a b :: t) = true := by
  have h1 := rf_cons.1 h
  have h2 := rf_cons.1 h1.2
  simp only [joinsX, decide_eq_true_eq] at hj
  refine rf_cons.2 ⟨by simp only [merge]; omega, ?_⟩
  simp only [merge]
  rw [show a.at_ + (a.ct + b.ct) = b.at_ + b.ct by omega]
  exact h2.2
theorem merge_fnd {a b : Ext} {t : List Ext} {e : Int} (h : rf e (a :: b :: t) = true) (hj : joinsX a b = true) (n : Int) : fnd n (merge a b :: t) = fnd n (a :: b :: t) := by
  have h1 := rf_cons.1 h
  have h2 := rf_cons.1 h1.2
  simp only [joinsX, decide_eq_true_eq] at hj
  have m1 : (merge a b).at_ = a.at_ := rfl
  have m2 : (merge a b).st = a.st := rfl
  have m3 : (merge a b).ct = a.ct + b.ct := rfl
  simp only [fnd]
  by_cases c1 : a.at_ ≤ n ∧ n < a.at_ + a.ct
  · rw [if_pos c1, if_pos (by omega)]
    congr 1
  · rw [if_neg c1]
    by_cases c2 : b.at_ ≤ n ∧ n < b.at_ + b.ct
    · rw [if_pos c2, if_pos (by omega)]
      congr 1
      omega
    · rw [if_neg c2, if_neg (by omega)]
theorem merge_cnt (a b : Ext) (t : List Ext) : cntX (merge a b :: t) = cntX (a :: b :: t) := by simp only [cntX, merge]; omega

/-- Where an extent goes. -/
def insI (x : Ext) (l : List Ext) : Nat := l.findIdx fun y => decide (x.at_ ≤ y.at_)
def ins (x : Ext) (l : List Ext) : List Ext := l.take (insI x l) ++ x :: l.drop (insI x l)
def mergeR (x : Ext) : List Ext → List Ext
  | [] => [x]
  | y :: t => if joinsX x y then merge x y :: t else x :: y :: t
/-- The last of a list and what is behind it, joined if they join. -/
def mergeL (a : List Ext) : List Ext → List Ext
  | [] => a
  | x :: t => match a.getLast? with
    | none => x :: t
    | some z => if joinsX z x then a.dropLast ++ merge z x :: t else a ++ x :: t
def addX (x : Ext) (l : List Ext) : List Ext := mergeL (l.take (insI x l)) (mergeR x (l.drop (insI x l)))
theorem mergeR_law {x : Ext} {t : List Ext} {e : Int} (h : rf e (x :: t) = true) (he : 0 ≤ e) : rf e (mergeR x t) = true ∧ (∀ n, fnd n (mergeR x t) = fnd n (x :: t)) ∧ cntX (mergeR x t) = cntX (x :: t) ∧ ∃ z s, mergeR x t = z :: s := by
  cases t with
  | nil => exact ⟨h, fun _ => rfl, rfl, _, _, rfl⟩
  | cons y t =>
    simp only [mergeR]
    split
    · rename_i hj
      exact ⟨merge_rf h he hj, merge_fnd h hj, merge_cnt _ _ _, _, _, rfl⟩
    · exact ⟨h, fun _ => rfl, rfl, _, _, rfl⟩
theorem endF_nn {a : List Ext} (h : rf 0 a = true) : 0 ≤ endF 0 a := endF_ge a 0 h
theorem mergeL_law {a s : List Ext} {x : Ext} (h : rf 0 (a ++ x :: s) = true) : rf 0 (mergeL a (x :: s)) = true ∧ (∀ n, fnd n (mergeL a (x :: s)) = fnd n (a ++ x :: s)) ∧ cntX (mergeL a (x :: s)) = cntX (a ++ x :: s) := by
  simp only [mergeL]
  split
  · rename_i hn
    rw [List.getLast?_eq_none_iff] at hn
    subst hn
    exact ⟨h, fun _ => rfl, rfl⟩
  · rename_i z hz
    split
    · rename_i hj
      have ha : a = a.dropLast ++ [z] := by
        obtain ⟨ys, rfl⟩ := List.getLast?_eq_some_iff.1 hz
        rw [List.dropLast_concat]
      have h2 : rf 0 (a.dropLast ++ (z :: x :: s)) = true := by
        rw [ha] at h
        simpa using h
      have e2 : a ++ x :: s = a.dropLast ++ (z :: x :: s) := by
        conv => lhs; rw [ha]
        simp
      rw [rf_app, Bool.and_eq_true] at h2
      rw [e2]
      refine ⟨?_, fun n => ?_, ?_⟩
      · rw [rf_app, Bool.and_eq_true]
        exact ⟨h2.1, merge_rf h2.2 (endF_nn h2.1) hj⟩
      · rw [fnd_app, fnd_app, merge_fnd h2.2 hj]
      · rw [cnt_app, cnt_app, merge_cnt]
    · exact ⟨h, fun _ => rfl, rfl⟩
/-- An extent that is put in. -/
theorem addX_law {x : Ext} {l : List Ext} (h : rf 0 (ins x l) = true) :
    rf 0 (addX x l) = true ∧ cntX (addX x l) = cntX l + x.ct ∧ ∀ n, fnd n (addX x l) = (if x.at_ ≤ n ∧ n < x.at_ + x.ct then some (x.st + n - x.at_) else fnd n l) ∧ (x.at_ ≤ n ∧ n < x.at_ + x.ct → fnd n l = none) := by
  unfold ins at h
  have hl : l = l.take (insI x l) ++ l.drop (insI x l) := (List.take_append_drop _ _).symm
  unfold addX
  generalize l.take (insI x l) = a at *
  generalize l.drop (insI x l) = b at *
  subst hl
  have h1 := h
  rw [rf_app, Bool.and_eq_true] at h1
  obtain ⟨m1, m2, m3, z, s, m4⟩ := mergeR_law h1.2 (endF_nn h1.1)
  have h2 : rf 0 (a ++ mergeR x b) = true := by rw [rf_app, Bool.and_eq_true]; exact ⟨h1.1, m1⟩
  have hx := rf_cons.1 h1.2
  rw [m4] at h2 m2 m3 ⊢
  obtain ⟨r1, r2, r3⟩ := mergeL_law h2
  refine ⟨r1, ?_, fun n => ?_⟩
  · rw [r3, cnt_app, m3, cnt_app]
    simp only [cntX]
    omega
  · rw [r2 n, fnd_app, m2 n, fnd_app]
    simp only [fnd]
    constructor
    · split
      · rename_i hc
        rcases ha : fnd n a with _ | v
        · rfl
        · have := fnd_lt n a 0 h1.1 v ha
          omega
      · rfl
    · intro hc
      rcases ha : fnd n a with _ | v
      · rcases hb : fnd n b with _ | v
        · rfl
        · have := fnd_lt n b _ hx.2 v hb
          omega
      · have := fnd_lt n a 0 h1.1 v ha
        omega

/-- How much of an extent is ahead of a block of the file. -/
def cutN (at_ : Int) (x : Ext) : Int := min (max (at_ - x.at_) 0) x.ct
def cutA (at_ : Int) : List Ext → List Ext
  | [] => []
  | x :: l => (if 0 < cutN at_ x then [⟨x.at_, x.st, cutN at_ x⟩] else []) ++ cutA at_ l
def cutB (at_ : Int) : List Ext → List Ext
  | [] => []
  | x :: l => (if cutN at_ x < x.ct then [⟨x.at_ + cutN at_ x, x.st + cutN at_ x, x.ct - cutN at_ x⟩] else []) ++ cutB at_ l
theorem cutA_fnd (at_ n : Int) : ∀ l, (∀ x ∈ l, (0 : Int) ≤ x.ct) → fnd n (cutA at_ l) = if n < at_ then fnd n l else none
  | [], _ => by simp [cutA, fnd]
  | x :: l, h => by
    have ih := cutA_fnd at_ n l (fun y hy => h y (by simp [hy]))
    have hx := h x (by simp)
    have hN : cutN at_ x = min (max (at_ - x.at_) 0) x.ct := rfl
    simp only [cutA, fnd_app]
    by_cases c : x.at_ ≤ n ∧ n < x.at_ + x.ct
    · by_cases d : n < at_
      · rw [if_pos (show (0 : Int) < cutN at_ x by omega)]
        simp only [fnd]
        rw [if_pos (by omega), if_pos d, if_pos c]
        rfl
      · rw [if_neg d] at ih ⊢
        rw [ih, Option.or_none]
        split
        · simp only [fnd]
          rw [if_neg (by omega)]
        · rfl
    · simp only [fnd, if_neg c]
      rw [ih]
      split
      · simp only [fnd]
        rw [if_neg (by omega)]
        simp
      · simp [fnd]
theorem cutB_fnd (at_ n : Int) : ∀ l, (∀ x ∈ l, (0 : Int) ≤ x.ct) → fnd n (cutB at_ l) = if at_ ≤ n then fnd n l else none
  | [], _ => by simp [cutB, fnd]
  | x :: l, h => by
    have ih := cutB_fnd at_ n l (fun y hy => h y (by simp [hy]))
    have hx := h x (by simp)
    have hN : cutN at_ x = min (max (at_ - x.at_) 0) x.ct := rfl
    simp only [cutB, fnd_app]
    by_cases c : x.at_ ≤ n ∧ n < x.at_ + x.ct
    · by_cases d : at_ ≤ n
      · rw [if_pos (show cutN at_ x < x.ct by omega)]
        simp only [fnd]
        rw [if_pos (by omega), if_pos d, if_pos c]
        show some _ = some _
        congr 1
        omega
      · rw [if_neg d] at ih ⊢
        rw [ih, Option.or_none]
        split
        · simp only [fnd]
          rw [if_neg (by omega)]
        · rfl
    · simp only [fnd, if_neg c]
      rw [ih]
      split
      · simp only [fnd]
        rw [if_neg (by omega)]
        simp
      · simp [fnd]
theorem cutA_rf (at_ : Int) : ∀ (l : List Ext) (e e' : Int), rf e l = true → e' ≤ e → rf e' (cutA at_ l) = true
  | [], _, _, _, _ => rfl
  | x :: l, e, e', h, he => by
    have h' := rf_cons.1 h
    have hN : cutN at_ x = min (max (at_ - x.at_) 0) x.ct := rfl
    simp only [cutA]
    split
    · simp only [List.cons_append, List.nil_append]
      exact rf_cons.2 ⟨by simp only; omega, cutA_rf at_ l _ _ h'.2 (by simp only; omega)⟩
    · simp only [List.nil_append]
      exact cutA_rf at_ l _ _ h'.2 (by omega)
theorem cutB_rf (at_ : Int) : ∀ (l : List Ext) (e e' : Int), rf e l = true → e' ≤ e → rf e' (cutB at_ l) = true
  | [], _, _, _, _ => rfl
  | x :: l, e, e', h, he => by
    have h' := rf_cons.1 h
    have hN : cutN at_ x = min (max (at_ - x.at_) 0) x.ct := rfl
    simp only [cutB]
    split
    · simp only [List.cons_append, List.nil_append]
      exact rf_cons.2 ⟨by simp only; omega, cutB_rf at_ l _ _ h'.2 (by simp only; omega)⟩
    · simp only [List.nil_append]
      exact cutB_rf at_ l _ _ h'.2 (by omega)
theorem cut_cnt (at_ : Int) : ∀ l, (∀ x ∈ l, (0 : Int) ≤ x.ct) → cntX (cutA at_ l) + cntX (cutB at_ l) = cntX l
  | [], _ => rfl
  | x :: l, h => by
    have ih := cut_cnt at_ l (fun y hy => h y (by simp [hy]))
    have hx := h x (by simp)
    have hN : cutN at_ x = min (max (at_ - x.at_) 0) x.ct := rfl
    simp only [cutA, cutB, cnt_app, cntX]
    have e1 : cntX (if 0 < cutN at_ x then [⟨x.at_, x.st, cutN at_ x⟩] else []) = cutN at_ x := by
      split
      · simp [cntX]
      · simp only [cntX]; omega
    have e2 : cntX (if cutN at_ x < x.ct then [⟨x.at_ + cutN at_ x, x.st + cutN at_ x, x.ct - cutN at_ x⟩] else []) = x.ct - cutN at_ x := by
      split
      · simp [cntX]
      · simp only [cntX]; omega
    rw [e1, e2]
    omega
theorem rf_ct : ∀ (l : List Ext) (e : Int), rf e l = true → ∀ x ∈ l, (0 : Int) ≤ x.ct
  | x :: l, e, h, y, hy => by
    have h' := rf_cons.1 h
    rcases List.mem_cons.1 hy with rfl | hy
    · omega
    · exact rf_ct l _ h'.2 y hy
theorem rf_nums : ∀ (l : List Ext) (e : Int), 0 ≤ e → rf e l = true → ∀ x ∈ l, (0 ≤ x.at_ ∧ x.at_ ≤ 512) ∧ (1 ≤ x.st ∧ x.st ≤ 512) ∧ (1 ≤ x.ct ∧ x.ct ≤ 512) ∧ x.at_ + x.ct ≤ 512 ∧ x.st + x.ct ≤ 512
  | x :: l, e, he, h, y, hy => by
    have h' := rf_cons.1 h
    rcases List.mem_cons.1 hy with rfl | hy
    · omega
    · exact rf_nums l _ (by omega) h'.2 y hy
theorem cnt_le : ∀ (l : List Ext) (e : Int), rf e l = true → 0 ≤ cntX l ∧ e + cntX l ≤ endF e l
  | [], e, _ => by simp [cntX, endF]
  | x :: l, e, h => by
    have h' := rf_cons.1 h
    have ih := cnt_le l _ h'.2
    simp only [cntX, endF]
    omega
theorem endF_le : ∀ (l : List Ext) (e : Int), e ≤ 512 → rf e l = true → endF e l ≤ 512
  | [], e, he, _ => he
  | x :: l, e, he, h => by
    have h' := rf_cons.1 h
    exact endF_le l _ (by omega) h'.2
end Go.Proofs.Ytahlhdhljjpeoaa
