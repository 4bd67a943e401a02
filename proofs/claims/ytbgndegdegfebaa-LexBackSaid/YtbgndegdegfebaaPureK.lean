/- Plain law LexBack of layer 44 (lex). No program in sight. -/
import Derived.Test.YtbgndegdegfebaaPureS
namespace Go.Proofs.Ytbgndegdegfebaa.PureK
open Go.RowKit Go.Proofs.YtbgndegdegfebaaW.PrintWords Go.Proofs.YtbgndegdegfebaaW.PrintLast Go.Proofs.YtbgndegdegfebaaW.PrintMore Go.Proofs.Ytbgndegdegfebaa.Q Go.Proofs.Ytbgndegdegfebaa.Pure0 Go.Proofs.Ytbgndegdegfebaa.PureM Go.Proofs.Ytbgndegdegfebaa.PureN Go.Proofs.Ytbgndegdegfebaa.PureL Go.Proofs.Ytbgndegdegfebaa.PureO Go.Proofs.Ytbgndegdegfebaa.PureS
set_option linter.unusedVariables false
set_option linter.unusedSimpArgs false

theorem same_neg (a b : List S33) (hl : a.length = b.length) (ha : a.length < 100000000) (hall : ∀ i (h : i < a.length), sameB (-1) a[i] (b[i]'(by omega)) = true) (n : Nat) : ∀ i : Nat, i + n = a.length →
    Ev (fun k => postilionref44_Same.l0 k a b (-1) (i : Int)) true := by
  induction n with
  | zero =>
    intro i hi
    refine evStep (fun k => by rw [postilionref44_Same.l0]) ?_
    refine evNeg (by omega) ?_
    refine evStep (fun k => by rw [postilionref44_Same.j1]) ?_
    exact evNeg (by simp) (Ev.now _)
  | succ n ih =>
    intro i hi
    have h1 := hall i (by omega)
    unfold sameB at h1
    rw [decide_eq_true_eq] at h1
    refine evStep (fun k => by rw [postilionref44_Same.l0]) ?_
    refine evPos (by omega) ?_
    rw [decide_eq_true (show (i : Int) < (b.length : Int) by omega)]
    refine evStep (fun k => by rw [postilionref44_Same.j1]) ?_
    rw [rd33_nat a i (by omega), rd33_nat b i (by omega)]
    refine evPos rfl (evPos (by omega) (evPos (by omega) (evPos (by omega) (evPos h1.1 (evPos (by rw [h1.2.1]) (evNeg (by omega) ?_))))))
    rw [wrap_succ i (by omega)]
    exact ih (i + 1) (by omega)
theorem same_on (l : List S33) (hl : l.length ≤ 4096) : Ev (fun k => postilionref44_Same.f k l (((l.map tk).map (on 1)).map toS) (-1)) true := by
  refine evPos (by rw [List.length_map, List.length_map, List.length_map]) ?_
  refine same_neg l _ (by rw [List.length_map, List.length_map, List.length_map]) (by omega) ?_ l.length 0 (by omega)
  intro i h
  rw [List.getElem_map, List.getElem_map, List.getElem_map]
  unfold sameB
  rw [decide_eq_true_eq]
  exact ⟨rfl, (B_L _).symm, fun h => by omega⟩
theorem back_j3 (s : List UInt8) (h1 : s.length ≤ 1024) : Ev (fun k => postilionlaw44_LexBack.j3 k (B s)) true := by
  obtain ⟨⟨o, n, e⟩, hr⟩ := rd_total (1 + s.count 10) _ s [] (Nat.le_refl _)
  have hn := rd_nice hr (by omega)
  obtain ⟨k1, k2, k3, k4, k5, k6, k7, k8⟩ := rd_ok hr
  refine evStep (fun k => by rw [postilionlaw44_LexBack.j3]) ?_
  refine Ev.bind (read_own hr (by omega) (.inl (by omega))) ?_
  by_cases he : e = 0
  · subst he
    refine evPos rfl ?_
    have hl : (o.map toS).length ≤ 4096 := by
      have : o.length ≤ s.length := hn.1
      rw [List.length_map]
      omega
    have hs : ∀ j (h : j < (o.map toS).length), ((o.map toS)[j].f1).size ≤ 1024 := by
      intro j h
      rw [List.getElem_map]
      show (B _).size ≤ 1024
      rw [size_B]
      exact k2 1024 h1 (fun x hx => by cases hx) _ (List.getElem_mem _)
    have hok : (o.map toS).all ok1 = true := by
      rw [List.all_eq_true]
      intro x hx
      obtain ⟨y, hy, rfl⟩ := List.mem_map.1 hx
      exact k1 (fun x hx => by cases hx) y hy
    have hp := put_any (o.map toS) 1024 hl (Nat.le_refl _) hs
    have hpv : putsR (o.map toS) (o.map toS) = (B (Lib.join (((o.map toS).map piece).map L) [32]), 0) := by
      unfold putsR
      rw [if_pos hok]
    rw [hpv] at hp
    refine Ev.bind hp (Ev.bind (read_put (o.map toS) 1024 hl (Nat.le_refl _) hs hok) (evPos rfl (evPos rfl (Ev.bind (same_on (o.map toS) hl) (evPos rfl (Ev.bind awake (Ev.now _)))))))
  · obtain ⟨e1, e2⟩ := k6 he
    refine evNeg (by show ¬ (((e : Nat) : Int) = 0); omega) (evPos ?_ (Ev.bind awake (Ev.now _)))
    show (((o.map toS).length : Nat) : Int) = 0
    rw [show o = [] from e1]
    rfl
theorem ones_loop (s : List UInt8) (h1 : s.length ≤ 1024) (m : List Tok) (hm : m.length ≤ 4096) (d : Nat) : ∀ i : Nat, i + d = m.length →
    Ev (fun k => postilionlaw44_LexBack.l0 k (B s) ((m.map (on 1)).map toS) (i : Int)) true := by
  have hl : ((m.map (on 1)).map toS).length = m.length := by rw [List.length_map, List.length_map]
  induction d with
  | zero =>
    intro i hi
    refine evStep (fun k => by rw [postilionlaw44_LexBack.l0]) ?_
    exact evNeg (by omega) (back_j3 s h1)
  | succ d ih =>
    intro i hi
    refine evStep (fun k => by rw [postilionlaw44_LexBack.l0]) ?_
    refine evPos (by omega) (evPos (by omega) (evPos ?_ ?_))
    · rw [rd33_nat _ i (by omega), List.getElem_map, List.getElem_map]
      rfl
    · rw [wrap_succ i (by omega)]
      exact ih (i + 1) (by omega)
theorem LexBack (l : List S33) (q : ByteArray) : ∃ k, postilionlaw44_LexBack.f k l q = some true := by
  refine Ev.rounds ?_
  rw [← B_L q]
  generalize L q = s
  have asleep : Ev (fun k => postilionlaw44_LexBack.j0 k l (B s) true) true := by
    refine evStep (fun k => by rw [postilionlaw44_LexBack.j0]) ?_
    exact evPos rfl (Ev.bind awake (Ev.now _))
  obtain ⟨b, hb, hp⟩ := few_ends l
  refine Ev.bind hb ?_
  cases b
  · exact evNeg (by simp) asleep
  obtain ⟨hl, hs⟩ := hp rfl
  refine evPos rfl ?_
  by_cases h1 : ((B s).size : Int) > 1024
  · rw [decide_eq_true h1]
    exact asleep
  rw [decide_eq_false h1]
  rw [size_B] at h1
  refine evStep (fun k => by rw [postilionlaw44_LexBack.j0]) ?_
  refine evNeg (by simp) (Ev.bind (put_any l 100 (by omega) (by omega) hs) ?_)
  unfold putsR
  by_cases hok : l.all ok1 = true
  · rw [if_pos hok]
    refine evPos rfl (Ev.bind (read_put l 100 (by omega) (by omega) hs hok) (evPos rfl (evPos rfl (Ev.bind (same_on l (by omega)) ?_))))
    refine evStep (fun k => by rw [postilionlaw44_LexBack.j1]) ?_
    exact evNeg (by simp) (ones_loop s (by omega) (l.map tk) (by rw [List.length_map]; omega) _ 0 (by rw [Nat.zero_add]))
  · rw [if_neg hok]
    exact evNeg (by show ¬ ((1 : Int) = 0); decide) (back_j3 s (by omega))
end Go.Proofs.Ytbgndegdegfebaa.PureK
