/- Put and Get in one contract each; copies that are read. -/
import Derived.Test.YtknhfaplddgnlaaRecZ
namespace Go.Proofs.Ytknhfaplddgnlaa
open Go.RowKit
set_option maxHeartbeats 1000000
set_option maxRecDepth 100000
set_option linter.unusedVariables false
set_option linter.unusedSimpArgs false

def putE (ep seq : Int) (ims : List Img) : Int := if rightG ep seq ims = true then 0 else 80
def putLs (ep seq : Int) (ims : List Img) : List (List UInt8) := if rightG ep seq ims = true then putB ep.toNat seq.toNat ims else []
theorem putLs_length (ep seq : Int) (ims : List Img) : (putLs ep seq ims).length ≤ 33 := by
  unfold putLs
  split
  · rename_i h
    have := (rightG_out h).2.2.2.2.2.1
    simp [putB]
    exact this
  · decide
def PutP (w : World) (ep seq : Int) (ims : List Img) (e : Ending) (w' : World) : Prop :=
  Below w.heap.size w w' ∧ ∃ A n c, e = .returned (.tuple #[.slice A n c, .int .i64 (putE ep seq ims)]) ∧ n = (putLs ep seq ims).length ∧ RdLs w' A (putLs ep seq ims)
theorem RdLs.nil (w : World) (a : Option Addr) : RdLs w a [] := fun i l h => by simp at h
theorem RdG.nil (w : World) (a : Option Addr) : RdG w a [] := fun i l h => by simp at h
theorem putP {w : World} {ep seq : Int} {ims : List Img} {N : Nat} (hN : N = ims.length) {e : Ending} {w' : World} (h : Below w.heap.size w w' ∧
      (rightG ep seq ims = false → e = .returned (.tuple #[.slice none 0 0, .int .i64 80])) ∧
      (rightG ep seq ims = true → ∃ L cL gs, e = .returned (.tuple #[.slice (some ⟨L, 0, none⟩) (N + 1) cL, .int .i64 0]) ∧ OwLs w.heap.size w' L cL gs (putB ep.toNat seq.toNat ims))) : PutP w ep seq ims e w' := by
  obtain ⟨h1, h2, h3⟩ := h
  refine ⟨h1, ?_⟩
  cases hr : rightG ep seq ims with
  | false =>
    refine ⟨none, 0, 0, ?_, ?_, ?_⟩
    · rw [h2 hr, putE, hr]
      rfl
    · simp [putLs, hr]
    · rw [putLs, hr]
      exact RdLs.nil _ _
  | true =>
    obtain ⟨L, cL, gs, he, ho⟩ := h3 hr
    refine ⟨some ⟨L, 0, none⟩, N + 1, cL, ?_, ?_, ?_⟩
    · rw [he, putE, hr]
      rfl
    · simp [putLs, hr, putB, hN]
    · rw [putLs, hr]
      exact ho.rd
theorem PutU (w : World) (ep seq : Int) (a : Option Addr) (N c : Nat) (ims : List Img) (hN : N = ims.length) (hr : RdG w a ims) : Calls Try.prog 7 #[.agg #[.int .i64 ep, .int .i64 seq, .slice a N c]] w (PutP w ep seq ims) :=
  (Put_any w ep seq a N c ims hN hr).mono fun _ _ h => putP hN h
theorem refPutU (w : World) (ep seq : Int) (a : Option Addr) (N c : Nat) (ims : List Img) (hN : N = ims.length) (hr : RdG w a ims) : Calls Try.prog 20 #[.agg #[.int .i64 ep, .int .i64 seq, .slice a N c]] w (PutP w ep seq ims) :=
  (refPut_any w ep seq a N c ims hN hr).mono fun _ _ h => putP hN h
theorem rdls_blk {w : World} {a : Option Addr} {x : List UInt8} {t : List (List UInt8)} (h : RdLs w a (x :: t)) {b : Nat} (hb : blkOf a b) : b < w.heap.size := by
  obtain ⟨b', off, A, c, rfl, h1, _⟩ := h 0 x rfl
  have e : b' = b := by simpa [blkOf] using hb
  subst e
  by_cases hlt : b' < w.heap.size
  · exact hlt
  · exfalso
    have : w.heap[b']? = none := by simp; omega
    simp [World.cell?, this] at h1
/-- What Get answers. -/
def getE (ls : List (List UInt8)) : Int := if getOK ls = true then 0 else 80
def getEp (ls : List (List UInt8)) : Int := if getOK ls = true then (epOf (ls.headD []) : Int) else 0
def getSq (ls : List (List UInt8)) : Int := if getOK ls = true then (seqOf (ls.headD []) : Int) else 0
def getIms (ls : List (List UInt8)) : List Img := if getOK ls = true then gotIms (gathB (ls.headD [])) ls.tail (nOf (gathB (ls.headD []))) else []
theorem getIms_length (ls : List (List UInt8)) : (getIms ls).length ≤ 32 := by
  unfold getIms
  split
  · rename_i h
    rw [gotIms_length]
    cases ls with
    | nil => cases h
    | cons x t =>
      simp only [getOK, Bool.and_eq_true] at h
      exact (isHead_n h.1.1).2.2
  · decide
def GetP (w : World) (ls : List (List UInt8)) (e : Ending) (w' : World) : Prop :=
  Below w.heap.size w w' ∧ ∃ A n c, e = .returned (.tuple #[.agg #[.int .i64 (getEp ls), .int .i64 (getSq ls), .slice A n c], .int .i64 (getE ls)]) ∧ n = (getIms ls).length ∧ RdG w' A (getIms ls)
theorem getP {w : World} {ls : List (List UInt8)} {e : Ending} {w' : World} (h : GtPost w ls e w') : GetP w ls e w' := by
  obtain ⟨h1, h2, h3⟩ := h
  refine ⟨h1, ?_⟩
  cases hg : getOK ls with
  | false =>
    refine ⟨none, 0, 0, ?_, ?_, ?_⟩
    · rw [h2 hg, getEp, getSq, getE, hg]
      rfl
    · simp [getIms, hg]
    · rw [getIms, hg]
      exact RdG.nil _ _
  | true =>
    obtain ⟨x, t, A, c, gs, rfl, he, ho⟩ := h3 hg
    refine ⟨A, nOf (gathB x), c, ?_, ?_, ?_⟩
    · rw [he, getEp, getSq, getE, hg]
      rfl
    · simp [getIms, hg, gotIms_length]
    · rw [getIms, hg]
      exact ho.rd
theorem GetU (w : World) (a : Option Addr) (N c : Nat) (ls : List (List UInt8)) (hN : N = ls.length) (hNc : N ≤ c ∧ c ≤ 9223372036854775807) (hNl : N ≤ 1000000) (hl : ∀ l ∈ ls, l.length ≤ 200000000000000) (hr : RdLs w a ls) :
    Calls Try.prog 11 #[.slice a N c] w (GetP w ls) := by
  cases ls with
  | nil => subst hN; exact (Get_none w a c).mono fun _ _ h => getP h
  | cons x t => exact (Get_any w a N c x t hN hNc hNl hl hr (fun b hb => rdls_blk hr hb)).mono fun _ _ h => getP h
theorem refGetU (w : World) (a : Option Addr) (N c : Nat) (ls : List (List UInt8)) (hN : N = ls.length) (hNc : N ≤ c ∧ c ≤ 9223372036854775807) (hNl : N ≤ 1000000) (hl : ∀ l ∈ ls, l.length ≤ 200000000000000) (hr : RdLs w a ls) :
    Calls Try.prog 21 #[.slice a N c] w (GetP w ls) := by
  cases ls with
  | nil => subst hN; exact (refGet_none w a c).mono fun _ _ h => getP h
  | cons x t => exact (refGet_any w a N c x t hN hNc hNl hl hr (fun b hb => rdls_blk hr hb)).mono fun _ _ h => getP h
/-- A copied list of lists is read. -/
theorem OwA.rdl {base : Nat} {w : World} {A : Option Addr} {c N : Nat} {av : List (Option Addr × Nat)} {ls : List (List UInt8)} (h : OwA base w av ls) (hN : N = ls.length) (hr : w.ownsRow base 31 1 (.slice A N c) N (valA av ls)) : RdLs w A ls := by
  intro i l hl
  have hi : i < ls.length := (List.getElem?_eq_some_iff.1 hl).1
  obtain ⟨g, c', e, _, _⟩ := own_slice1 hr (by omega)
  simp only [Value.slice.injEq, true_and] at e
  obtain ⟨rfl, rfl⟩ := e
  obtain ⟨p, hp⟩ : ∃ p, av[i]? = some p := ⟨av[i]'(by rw [h.len]; exact hi), List.getElem?_eq_getElem _⟩
  have ho := h.own i p l hp hl
  have hc := World.ownsRow.cellAt hr i (by omega)
  rw [valA_at hp hl] at hc
  exact ⟨g, 0, p.1, p.2, rfl, by rw [Nat.zero_add]; exact hc, ho.rd, ho.cap⟩
theorem OwA.rdg {base : Nat} {w : World} {A : Option Addr} {c N : Nat} {av : List (Option Addr × Nat)} {ims : List Img} (h : OwA base w av (ims.map (·.2))) (hN : N = ims.length) (hr : w.ownsRow base 38 2 (.slice A N c) N (imC (ims.map (·.1)) (valA av (ims.map (·.2))))) : RdG w A ims := by
  intro i x hx
  have hi : i < ims.length := (List.getElem?_eq_some_iff.1 hx).1
  obtain ⟨g, c', e, _, _⟩ := own_slice1 hr (by omega)
  simp only [Value.slice.injEq, true_and] at e
  obtain ⟨rfl, rfl⟩ := e
  have hl : (ims.map (·.2))[i]? = some x.2 := by rw [List.getElem?_map, hx]; rfl
  have hn : (ims.map (·.1))[i]? = some x.1 := by rw [List.getElem?_map, hx]; rfl
  obtain ⟨p, hp⟩ : ∃ p, av[i]? = some p := ⟨av[i]'(by rw [h.len]; simpa using hi), List.getElem?_eq_getElem _⟩
  have ho := h.own i p x.2 hp hl
  obtain ⟨i1, i2⟩ := imC_at _ _ i _ _ hn (valA_at hp hl)
  have c1 := World.ownsRow.cellAt hr (i * 2) (by omega)
  have c2 := World.ownsRow.cellAt hr (i * 2 + 1) (by omega)
  rw [i1] at c1
  rw [i2] at c2
  exact ⟨g, 0, p.1, p.2, rfl, by rw [Nat.zero_add]; exact c1, by rw [Nat.zero_add]; exact c2, ho.rd, ho.cap⟩
end Go.Proofs.Ytknhfaplddgnlaa
