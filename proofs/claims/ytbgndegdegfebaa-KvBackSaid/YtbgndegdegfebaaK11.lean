-- PRINTED by print.py (a twelfth state) out of the translation. Not trusted: Lean checks it.
import Derived.Test.YtbgndegdegfebaaK0
namespace Go.Proofs.Ytbgndegdegfebaa.K
open Go.RowKit Go.Proofs.YtbgndegdegfebaaW.PrintWords Go.Proofs.YtbgndegdegfebaaW.PrintLast Go.Proofs.YtbgndegdegfebaaW.PrintMore
attribute [local go_sem] max2_int min2_int max_two min_two max_three min_three max_four min_four   -- for this text's walks alone
set_option linter.unusedVariables false
set_option linter.unusedSimpArgs false

-- EXT 58 api_Pair making
/-! ### api_Pair (slices.Clone of pairs): function 58, by hand -/
def api_Pair.f (l0 : List S47) : Option (List S47) := if l0.length * 32 ≤ 140737488355328 then some l0 else none
theorem api_Pair.unR {W : World} {base : Nat} {ok : Nat → Prop} {v : Value} (h : ∀ k, v.ownBlock = some k → ok k) (ho : W.ownsRow base 47 2 v 0 []) : Kd.R k47 47 W base ok v [] := ⟨h, [], ho, Reps.none _ _⟩
set_option maxHeartbeats 2000000 in
set_option maxRecDepth 100000 in
theorem api_Pair.calls (A0 : Option Addr) (c0 : Nat) (l0 : List S47) (r : List S47) (w : World) (hr0 : Kd.C k47 w A0 l0.length l0) (hc0 : l0.length ≤ c0) (h : api_Pair.f l0 = some r) :
    Calls Try.prog 58 #[.slice A0 l0.length c0] w fun e w' => ∃ v0_ : Value, e = .returned (v0_) ∧ Kd.R k47 47 w' w.heap.size (fun _ => True) v0_ r ∧ Below w.heap.size w w' := by
  unfold api_Pair.f at h
  by_cases hs : l0.length * 32 ≤ 140737488355328
  · rw [if_pos hs] at h
    cases h
    have q37 : ∀ (w : World) (a : Option Addr) (n c n' c' : Nat), (binOp .eql 37 (.slice a n c) (.slice none n' c')).run Try.prog w = .ok (.bool a.isNone) w := fun w a n c n' c' => Lib.run_eql_slice_nil w _ _ a n c n' c' Try.underlying37
    have HR := Aside0.mk hr0
    clear hr0
    cases A0 with
    | none =>
      have h0 : l0 = [] := by
        rcases Nat.eq_zero_or_pos l0.length with h0 | h0
        · exact List.length_eq_zero_iff.1 h0
        · obtain ⟨ad, h, _⟩ := HR.out.2.2 h0
          cases h
      subst h0
      clear HR
      go_enter Try.func58, Try.ntmps58
      go_wp2
      go_ret
      exact ⟨_, rfl, Kd.R_nil _ _ _ _ _, Below.refl _ _⟩
    | some ad =>
      have LM := Aside0.mk hs
      clear hs
      go_enter Try.func58, Try.ntmps58
      go_wp2_with ((with_reducible refine gate_builtin (b := .append) (xs := #[.tmp 5, .tmp 6]) rfl ?_); at_builtin; refine Kd.R_append_rows k47 (Rr := k47.K w) (w0 := w) w.heap.size rfl (.tmp 5) (.tmp 6) 37 47 (.agg #[(.string ⟨#[]⟩), (.string ⟨#[]⟩)]) 32 rfl Try.underlying37 info47 rfl (by decide) (by omega) (.slice (some ⟨w.heap.size, 0, none⟩) 0 0) [] l0 (some ad) l0.length c0 (fun _ => True) (fun _ => False) rfl rfl ?aO ?aR ?aM (fun _ hk => hk.elim) (fun _ _ => trivial) ?aB ?aS ?aL ?_; (case aO => exact api_Pair.unR (fun _ _ => trivial) (World.ownsRow_made w #[] 0 (Nat.le_refl _) (Nat.zero_le _) (by simp))); (case aR => exact ReadsRow.imp_ HR.out (below_alloc (Below.refl _ _) _) (fun _ _ hp => hp)); (case aM => intro x cs hx; obtain rfl := k47_open hx; exact k47_mkM _ _ _ _); (case aB => exact below_alloc (Below.refl _ _) _); (case aS => simp); (case aL => have := LM.out; simpa using this); intro v1 w1 ho hb hg hat)
      go_wp2
      go_ret
      exact ⟨_, rfl, by rw [List.nil_append] at ho; exact ho, hb⟩
  · rw [if_neg hs] at h
    cases h

end Go.Proofs.Ytbgndegdegfebaa.K
