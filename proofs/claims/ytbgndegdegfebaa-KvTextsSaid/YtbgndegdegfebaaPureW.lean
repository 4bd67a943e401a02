/- The plain law of KvTexts. No program in sight. -/
import Derived.Test.YtbgndegdegfebaaPureV
import Derived.Test.YtbgndegdegfebaaK17
namespace Go.Proofs.Ytbgndegdegfebaa.PureW
open Go.RowKit Go.Proofs.YtbgndegdegfebaaW.PrintWords Go.Proofs.YtbgndegdegfebaaW.PrintLast Go.Proofs.YtbgndegdegfebaaW.PrintMore Go.Proofs.Ytbgndegdegfebaa.K Go.Proofs.Ytbgndegdegfebaa.Pure0 Go.Proofs.Ytbgndegdegfebaa.PureU Go.Proofs.Ytbgndegdegfebaa.PureV
set_option linter.unusedVariables false

/-! ### the law -/
theorem law_loop (l : List S47) (h : l.length < 1000000) (hs : Small 900000 l) (d : Nat) : ∀ i : Nat, i + d = l.length → Ev (fun k => postilionlaw21_KvTexts.l0 k l (i : Int)) true := by
  induction d with
  | zero =>
    intro i hi
    exact evStep (fun k => by rw [postilionlaw21_KvTexts.l0]) (evNeg (by omega) (Ev.bind awake (Ev.now _)))
  | succ d ih =>
    intro i hi
    have hlt : i < l.length := by omega
    refine evStep (fun k => by rw [postilionlaw21_KvTexts.l0]) (evPos (by omega) (evPos (by omega) ?_))
    rw [rd47 l i hlt]
    refine evBindSome (kvCheck l[i]) (Ev.bind (refCheck l[i] (hs _ (List.getElem_mem hlt))) (evPos rfl ?_))
    rw [wrap_succ i (by omega)]
    exact ih (i + 1) (by omega)
theorem asleep (x0 : List S47) (x1 x2 : ByteArray) : Ev (fun k => postilionlaw21_KvTexts.j0 k x0 x1 x2 true) true :=
  evStep (fun k => by rw [postilionlaw21_KvTexts.j0]) (evPos rfl (Ev.bind awake (Ev.now _)))
theorem KvTexts (l : List S47) (t key : ByteArray) : ∃ k, postilionlaw21_KvTexts.f k l t key = some true := by
  refine Ev.rounds ?_
  obtain ⟨b, hb, hp⟩ := few_ends l
  refine Ev.bind hb ?_
  cases b
  · exact evNeg (by simp) (asleep l t key)
  obtain ⟨hl, hs⟩ := hp rfl
  have hs9 : Small 900000 l := small_mono (by omega) hs
  refine evPos rfl ?_
  by_cases h6 : (t.size : Int) > 600
  · exact evPos h6 (asleep l t key)
  refine evNeg h6 ?_
  by_cases hk : (key.size : Int) > 100
  · rw [decide_eq_true hk]; exact asleep l t key
  rw [decide_eq_false hk]
  obtain ⟨r, hr⟩ := ln_total _ (L t) (Nat.le_refl _)
  have ha := all_len 200 l hs
  have ha2 : l.length * (2 * 200 + 2) ≤ 20 * (2 * 200 + 2) := Nat.mul_le_mul_right _ hl
  refine evStep (fun k => by rw [postilionlaw21_KvTexts.j0]) (evNeg (by simp) ?_)
  refine Ev.bind (kvPrint l (by omega) (by omega)) (Ev.bind (refPrint l (by omega) hs9 (by omega)) (Ev.bind (kvParse t hr) (Ev.bind (refParse t hr) (evBindSome (kvGet l key) (Ev.bind (refGet l key (by omega)) ?_)))))
  refine evPos rfl (evPos rfl (Ev.bind (same _ (pa_len t hr)) (evPos rfl (evPos rfl (evPos rfl ?_)))))
  rw [show ((ge l key).2 != (ge l key).2) = false from by cases (ge l key).2 <;> rfl]
  have g : Ev (fun k => postilionlaw21_KvTexts.l0 k l 0) true := law_loop l (by omega) hs9 l.length 0 (by omega)
  refine evStep (fun k => by rw [postilionlaw21_KvTexts.j1]) ?_
  exact evNeg (by simp) g
end Go.Proofs.Ytbgndegdegfebaa.PureW
