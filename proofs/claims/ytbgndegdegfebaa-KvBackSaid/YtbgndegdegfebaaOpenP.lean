/- A row's argument that is a pair by value, opened and shut. -/
import Derived.Test.YtbgndegdegfebaaOpenK
import Derived.Lib.SmallJoins
namespace Go.Proofs.Ytbgndegdegfebaa.Opens
open Go.ChangeShapes Go.WideShapes Go.RowKit Go.Deep Go.Joins
set_option linter.unusedVariables false
set_option maxRecDepth 100000 in
theorem open47 {H : Type} {enc : TypeId × Value → H} {W : World} {base : Nat} {spare : Nat → Bool} {held : Bool} {r : Reach} {b0 : Nat} {v : Value} {d : DataW H} {p : List MemPlace}
    (hv : Value.okWide Try.prog W r b0 47 v) (h : DataW.Trod enc Try.prog W base spare held 47 v d p) :
    ∃ a b : ByteArray, v = .agg #[.string a, .string b] ∧ d = .agg [.lit (.string a.data.toList), .lit (.string b.data.toList)] ∧ p = [] ∧ (a.size ≤ maxLen ∧ b.size ≤ maxLen) := by
  have hc : Try.prog.cellsOf 47 = 2 := by kernel_rfl
  obtain ⟨c0, c1, y0, y1, m, rfl, rfl, rfl, hy0, hy1⟩ := open_agg2 Try.underlying47 (by kernel_rfl) hc hv h
  obtain ⟨a, e0, rfl, wa⟩ := DataW.trod_string Try.underlying9 hy0
  obtain ⟨b, e1, rfl, wb⟩ := DataW.trod_string Try.underlying9 hy1
  obtain rfl := (List.cons.inj e0).1
  obtain rfl := (List.cons.inj e1).1
  exact ⟨a, b, rfl, rfl, rfl, wa, wb⟩
set_option maxRecDepth 100000 in
theorem shut47 {H : Type} {enc : TypeId × Value → H} {W : World} {base : Nat} {spare : Nat → Bool} {held : Bool} {a b : ByteArray} (h : a.size ≤ maxLen ∧ b.size ≤ maxLen) :
    DataW.Trod enc Try.prog W base spare held 47 (.agg #[.string a, .string b]) (.agg [.lit (.string a.data.toList), .lit (.string b.data.toList)]) [] :=
  have hc : Try.prog.cellsOf 47 = 2 := by kernel_rfl
  shut_agg2 (y0 := (.lit (.string a.data.toList), [])) (y1 := (.lit (.string b.data.toList), [])) Try.underlying47 (by kernel_rfl) hc ⟨1, by simp [DataW.trod, Try.underlying9, h.1]⟩ ⟨1, by simp [DataW.trod, Try.underlying9, h.2]⟩
end Go.Proofs.Ytbgndegdegfebaa.Opens
