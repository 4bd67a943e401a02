/- Plain law LexJoins of layer 44 (lex). No program in sight. -/
import Derived.Test.YtbgndegdegfebaaPureS
namespace Go.Proofs.Ytbgndegdegfebaa.PureJ
open Go.RowKit Go.Proofs.YtbgndegdegfebaaW.PrintWords Go.Proofs.YtbgndegdegfebaaW.PrintLast Go.Proofs.YtbgndegdegfebaaW.PrintMore Go.Proofs.Ytbgndegdegfebaa.Q Go.Proofs.Ytbgndegdegfebaa.Pure0 Go.Proofs.Ytbgndegdegfebaa.PureM Go.Proofs.Ytbgndegdegfebaa.PureN Go.Proofs.Ytbgndegdegfebaa.PureL Go.Proofs.Ytbgndegdegfebaa.PureO Go.Proofs.Ytbgndegdegfebaa.PureS
set_option linter.unusedVariables false
set_option linter.unusedSimpArgs false

theorem LexJoins (p q : ByteArray) : ∃ k, postilionlaw44_LexJoins.f k p q = some true := by
  refine Ev.rounds ?_
  rw [← B_L p, ← B_L q]
  generalize L p = s
  generalize L q = t
  have asleep : Ev (fun k => postilionlaw44_LexJoins.j0 k (B s) (B t) true) true := by
    refine evStep (fun k => by rw [postilionlaw44_LexJoins.j0]) ?_
    exact evPos rfl (Ev.bind awake (Ev.now _))
  by_cases h1 : ((B s).size : Int) > 1024
  · exact evPos h1 asleep
  refine evNeg h1 ?_
  by_cases h2 : ((B t).size : Int) > 1024
  · rw [decide_eq_true h2]
    exact asleep
  rw [decide_eq_false h2]
  rw [size_B] at h1 h2
  obtain ⟨⟨a, n1, e1⟩, hr1⟩ := rd_total (1 + s.count 10) _ s [] (Nat.le_refl _)
  obtain ⟨⟨b, n2, e2⟩, hr2⟩ := rd_total (1 + t.count 10) _ t [] (Nat.le_refl _)
  have hn1 := rd_nice hr1 (by omega)
  have hn2 := rd_nice hr2 (by omega)
  have hc1 : s.count 10 ≤ s.length := List.count_le_length
  have hc2 : t.count 10 ≤ t.length := List.count_le_length
  have hlen : (s ++ 10 :: t).length = s.length + t.length + 1 := by rw [List.length_append, List.length_cons]; omega
  have hcnt : (s ++ 10 :: t).count 10 = s.count 10 + t.count 10 + 1 := by rw [List.count_append, List.count_cons_self]; omega
  refine evStep (fun k => by rw [postilionlaw44_LexJoins.j0]) ?_
  refine evNeg (by simp) (Ev.bind (read_own hr1 (by omega) (.inl (by omega))) (Ev.bind (read_own hr2 (by omega) (.inl (by omega))) ?_))
  have hcat : ((B s ++ (⟨#[10]⟩ : ByteArray)) ++ B t) = B (s ++ 10 :: t) := by
    rw [show (⟨#[10]⟩ : ByteArray) = B [10] from rfl, B_app, B_app]
    simp
  refine evPos (by rw [size_B]; omega) (evPos (by rw [show (⟨#[10]⟩ : ByteArray) = B [10] from rfl, B_app, size_B, size_B, List.length_append, List.length_singleton]; omega) ?_)
  rw [hcat]
  by_cases he1 : e1 = 0
  · subst he1
    have hsh := rd_shift (1 + s.count 10) a hr2 (by omega)
    rw [List.map_nil, List.append_nil] at hsh
    have hN : 1 + t.count 10 + (1 + s.count 10) = 1 + s.count 10 + 1 + t.count 10 := by omega
    rw [hN] at hsh
    have hj := rd_join t hr1 rfl (by omega) _ (rd_pre (fun r b h => Sk.blank (c := 10) (by decide) h) hsh)
    have hN2 : 1 + s.count 10 + 1 + t.count 10 = 1 + (s ++ 10 :: t).count 10 := by omega
    rw [hN2] at hj
    refine Ev.bind (read_own hj (by omega) (.inl (by omega))) (evPos rfl (Ev.bind (lines_ends s (by omega)) ?_))
    have hd : wrap64 (((s.count 10 : Nat) : Int) + 1) = ((1 + s.count 10 : Nat) : Int) := by rw [wrap_succ _ (by omega), Nat.add_comm]
    rw [hd]
    have h8 := (rd_ok hr2).2.2.2.2.2.2.2
    have h5 := (rd_ok hr2).2.2.2.2.1
    have h6 := (rd_ok hr2).2.2.2.2.2.1
    by_cases he2 : e2 = 0
    · subst he2
      refine evPos rfl (evPos rfl (evPos rfl ?_))
      have hl : ((((a ++ b.map (sh (1 + s.count 10))).map toS).length : Int) != wrap64 (((a.map toS).length : Int) + ((b.map toS).length : Int))) = false := by
        have e1 : a.length ≤ s.length := hn1.1
        have e2 : b.length ≤ t.length := hn2.1
        rw [List.length_map, List.length_map, List.length_map, List.length_append, List.length_map, wrap_add _ _ (by omega)]
        simp
      show Ev (fun k => postilionlaw44_LexJoins.j1 k (a.map toS) (b.map toS) ((a ++ b.map (sh (1 + s.count 10))).map toS) ((1 + s.count 10 : Nat) : Int) ((((a ++ b.map (sh (1 + s.count 10))).map toS).length : Int) != wrap64 (((a.map toS).length : Int) + ((b.map toS).length : Int)))) true
      rw [hl]
      refine evStep (fun k => by rw [postilionlaw44_LexJoins.j1]) ?_
      refine evNeg (by simp) (evPos (by omega) (evPos (by rw [List.length_map, List.length_map, List.length_append]; omega) ?_))
      rw [Int.toNat_natCast, List.map_append, List.take_left, List.drop_left]
      have e1 : a.length ≤ s.length := hn1.1
      have e2 : b.length ≤ t.length := hn2.1
      refine Ev.bind (same_true 0 _ _ rfl (by rw [List.length_map]; omega) (by omega) hn1.2 ?_) (evPos rfl ?_)
      · intro i h
        simp [sameB]
      refine Ev.bind (same_true _ _ _ (by rw [List.length_map, List.length_map, List.length_map]) (by rw [List.length_map]; omega) (by omega) hn2.2 ?_) (evPos rfl (Ev.bind awake (Ev.now _)))
      intro i h
      rw [List.getElem_map, List.getElem_map, List.getElem_map]
      unfold sameB
      rw [decide_eq_true_eq]
      refine ⟨rfl, rfl, fun _ => ?_⟩
      show ((b[i]'(by rw [List.length_map] at h; exact h)).2.2 : Int) + _ = (((b[i]'(by rw [List.length_map] at h; exact h)).2.2 + (1 + s.count 10) : Nat) : Int)
      omega
    · have h6' := h6 he2
      rw [if_neg he2]
      refine evNeg (by show ¬ (((e2 : Nat) : Int) = 0); omega) (evPos rfl (evPos ?_ (evPos rfl (Ev.bind awake (Ev.now _)))))
      show (((n2 + (1 + s.count 10) : Nat)) : Int) = wrap64 ((n2 : Int) + _)
      have h8' : n2 ≤ 1 + t.count 10 := h8
      rw [wrap_add _ _ (by omega)]
  · obtain ⟨⟨c, n3, e3⟩, hr3⟩ := rd_total (1 + (s ++ 10 :: t).count 10) _ (s ++ 10 :: t) [] (Nat.le_refl _)
    refine Ev.bind (read_own hr3 (by omega) (.inl (by omega))) (evNeg (by show ¬ (((e1 : Nat) : Int) = 0); omega) (Ev.bind awake (Ev.now _)))
end Go.Proofs.Ytbgndegdegfebaa.PureJ
