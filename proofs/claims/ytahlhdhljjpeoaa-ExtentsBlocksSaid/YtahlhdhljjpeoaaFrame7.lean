/- An extent by value that came in, for the rows. -/
import Derived.Test.YtahlhdhljjpeoaaFrame3
namespace Go.Proofs.Ytahlhdhljjpeoaa
set_option linter.unusedVariables false
theorem ext_of (ns : List Int) (h : ns.length = 3) {p : Int → Prop} (hb : ∀ n ∈ ns, p n) : ∃ s : Ext, Value.agg (ns.map (Value.int .i64)).toArray = s.val ∧ p s.at_ ∧ p s.st ∧ p s.ct := by
  match ns, h with
  | [a, b, c], _ => exact ⟨⟨a, b, c⟩, rfl, hb a (by simp), hb b (by simp), hb c (by simp)⟩
end Go.Proofs.Ytahlhdhljjpeoaa
