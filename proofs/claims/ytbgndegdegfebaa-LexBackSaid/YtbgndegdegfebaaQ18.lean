-- PRINTED by print.py (a twelfth state) out of the translation. Not trusted: Lean checks it.
import Derived.Test.YtbgndegdegfebaaQ7
namespace Go.Proofs.Ytbgndegdegfebaa.Q
open Go.RowKit Go.Proofs.YtbgndegdegfebaaW.PrintWords Go.Proofs.YtbgndegdegfebaaW.PrintLast Go.Proofs.YtbgndegdegfebaaW.PrintMore
attribute [local go_sem] max2_int min2_int max_two min_two max_three min_three max_four min_four   -- for this text's walks alone
set_option linter.unusedVariables false
set_option linter.unusedSimpArgs false

-- EXT 44 strings_Join making
/-! ### strings_Join: function 44, by the shelf's contract -/
def strings_Join.f (l0 : List ByteArray) (a1 : ByteArray) : Option (ByteArray) :=
  if l0.length ≤ 140737488355328 ∧ (Lib.join (l0.map (·.data.toList)) a1.data.toList).length ≤ 140737488355328 then some ⟨(Lib.join (l0.map (·.data.toList)) a1.data.toList).toArray⟩ else none
theorem strings_Join.calls (A0 : Option Addr) (c0 : Nat) (l0 : List ByteArray) (a1 : ByteArray) (r : ByteArray) (w : World) (hr0 : Kd.C Kd.string w A0 l0.length l0) (hc0 : l0.length ≤ c0) (h : strings_Join.f l0 a1 = some r) :
    Calls Try.prog 44 #[.slice A0 l0.length c0, .string a1] w fun e w' => e = .returned (.string r) ∧ Below w.heap.size w w' := by
  unfold strings_Join.f at h
  by_cases hs : l0.length ≤ 140737488355328 ∧ (Lib.join (l0.map (·.data.toList)) a1.data.toList).length ≤ 140737488355328
  · rw [if_pos hs] at h
    cases h
    by_cases h0 : l0 = []
    · subst h0
      refine (Try.strings_Join_none A0 c0 a1 w).mono fun e w' ⟨he, hw⟩ => ?_
      subst hw
      exact ⟨he, Below.refl _ _⟩
    · have hp : 0 < l0.length := List.length_pos_iff.2 h0
      obtain ⟨ad, e0, hx⟩ := Kd.at_string hr0 0 (by omega) (by omega)
      subst e0
      obtain ⟨b, o, sp⟩ := ad
      have hsp : sp = none := by
        cases sp with
        | none => rfl
        | some q =>
          exfalso
          simp only [Int.toNat_zero, Addr.add, if_true] at hx
          unfold World.cell? at hx
          split at hx <;> simp at hx
      subst hsp
      have hcells : ∀ (j : Nat) x, l0[j]? = some x → w.cell? ⟨b, o + j, none⟩ = some (.string x) := by
        intro j x hj
        have hlt := (List.getElem?_eq_some_iff.1 hj).1
        obtain ⟨ad, e1, hx1⟩ := Kd.at_string hr0 j (by omega) (by omega)
        cases e1
        have ha : (⟨b, o, none⟩ : Addr).add j = ⟨b, o + j, none⟩ := by unfold Addr.add; split <;> simp_all
        rw [Int.toNat_natCast, ha] at hx1
        rw [hx1]
        simp [rdOf, List.getD_eq_getElem?_getD, hj]
      exact (Try.strings_Join b o c0 l0 a1 w hcells (World.block_lt_of_cell? w _ (hcells 0 _ (List.getElem?_eq_getElem hp))) hs.1 hc0 hs.2)
  · rw [if_neg hs] at h
    cases h

end Go.Proofs.Ytbgndegdegfebaa.Q
