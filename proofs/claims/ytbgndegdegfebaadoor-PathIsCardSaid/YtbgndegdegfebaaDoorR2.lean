-- PRINTED by print.py (a twelfth state) out of the translation. Not trusted: Lean checks it.
import Derived.Test.YtbgndegdegfebaaDoorR0
namespace Go.Proofs.YtbgndegdegfebaaDoor.R
open Go.RowKit Go.Proofs.YtbgndegdegfebaaDoorW.PrintWords Go.Proofs.YtbgndegdegfebaaDoorW.PrintLast Go.Proofs.YtbgndegdegfebaaDoorW.PrintMore
attribute [local go_sem] max2_int min2_int max_two min_two max_three min_three max_four min_four   -- for this text's walks alone
set_option linter.unusedVariables false
set_option linter.unusedSimpArgs false

-- EXT 32 strings_Split making env
/-! ### strings_Split: function 32, by the shelf's contract -/
def strings_Split.f (a0 : ByteArray) (a1 : ByteArray) : Option (List ByteArray) :=
  if a0.size < 4294967281 ∧ 1 ≤ a1.size then some (Lib.splitB a1 0 (Lib.countB a0 a1) a0) else none
theorem strings_Split.calls (a0 : ByteArray) (a1 : ByteArray) (r : List ByteArray) (w : World) (HE : Env w) (h : strings_Split.f a0 a1 = some r) :
    Calls Tryd.prog 32 #[.string a0, .string a1] w fun e w' => ∃ v0_ : Value, e = .returned (v0_) ∧ Kd.R Kd.string 9 w' w.heap.size (fun _ => True) v0_ r ∧ Below w.heap.size w w' := by
  unfold strings_Split.f at h
  by_cases hs : a0.size < 4294967281 ∧ 1 ≤ a1.size
  · rw [if_pos hs] at h
    cases h
    obtain ⟨m, hm⟩ := HE
    refine (Tryd.strings_Split a0 a1 m w hs.1 hm hs.2).mono fun e w' ⟨he, hw⟩ => ?_
    subst hw
    refine ⟨_, he, ?_, below_alloc (Below.refl _ _) _⟩
    have hl : (Lib.splitB a1 0 (Lib.countB a0 a1) a0).length = Lib.countB a0 a1 + 1 := Lib.splitB_all a1 hs.2 0 _ a0 rfl
    have hm2 : Lib.countB a0 a1 + 1 ≤ maxLen := by
      have := Lib.countB_le a1 hs.2 _ a0 (Nat.le_refl _)
      unfold maxLen
      omega
    rw [← hl]
    refine Kd.R_of_own (enc := Value.string) ⟨by simp [encs], .inr ⟨w.heap.size, _, _, rfl, Nat.le_refl _, heap_alloc_new w _, Nat.le_refl _, by rw [hl]; exact hm2, by simp, by simp only [encs, Nat.mul_one]; rw [List.take_of_length_le (by simp)]⟩⟩ (fun _ _ => trivial)
  · rw [if_neg hs] at h
    cases h

end Go.Proofs.YtbgndegdegfebaaDoor.R
