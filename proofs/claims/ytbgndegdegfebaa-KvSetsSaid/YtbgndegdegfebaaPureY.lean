/- The plain law of KvSets. No program in sight. -/
import Derived.Test.YtbgndegdegfebaaPureX
import Derived.Test.YtbgndegdegfebaaK18
import Derived.Test.YtbgndegdegfebaaK19
namespace Go.Proofs.Ytbgndegdegfebaa.PureY
open Go.RowKit Go.Proofs.YtbgndegdegfebaaW.PrintWords Go.Proofs.YtbgndegdegfebaaW.PrintLast Go.Proofs.YtbgndegdegfebaaW.PrintMore Go.Proofs.Ytbgndegdegfebaa.K Go.Proofs.Ytbgndegdegfebaa.Pure0 Go.Proofs.Ytbgndegdegfebaa.PureU Go.Proofs.Ytbgndegdegfebaa.PureX
set_option linter.unusedVariables false
set_option linter.unusedSimpArgs false

/-! ### few texts -/
theorem rdOf_nat (l : List ByteArray) (i : Nat) (h : i < l.length) : rdOf ByteArray.empty l (i : Int) = l[i] := by
  rw [rdOf, Int.toNat_natCast, List.getD_eq_getElem?_getD, List.getElem?_eq_getElem h]
  rfl
theorem few09_loop (l : List ByteArray) (d : Nat) : ∀ i : Nat, i + d = 40 → i ≤ l.length →
    ∃ b, Ev (fun k => postilionref09_Few.l0 k l (i : Int)) b ∧ (b = true → l.length ≤ 40) := by
  induction d with
  | zero =>
    intro i hi hl
    obtain rfl : i = 40 := by omega
    refine ⟨decide ((l.length : Int) ≤ 40), ?_, fun hb => ?_⟩
    · by_cases hlt : ((40 : Nat) : Int) < (l.length : Int)
      · exact evStep (fun k => by rw [postilionref09_Few.l0]) (evPos hlt (evStep (fun k => by rw [postilionref09_Few.j1]) (evNeg (by simp) (Ev.now _))))
      · exact evStep (fun k => by rw [postilionref09_Few.l0]) (evNeg hlt (evStep (fun k => by rw [postilionref09_Few.j1]) (evNeg (by simp) (Ev.now _))))
    · have h40 : (l.length : Int) ≤ 40 := of_decide_eq_true hb
      omega
  | succ d ih =>
    intro i hi hl
    by_cases hlt : i < l.length
    · by_cases hsz : l[i].size ≤ 100
      · obtain ⟨b, hb, hp⟩ := ih (i + 1) (by omega) (by omega)
        refine ⟨b, ?_, hp⟩
        refine evStep (fun k => by rw [postilionref09_Few.l0]) (evPos (by omega) (evStep (fun k => by rw [postilionref09_Few.j1]) (evPos (by simp; omega) (evPos (by omega) (evPos (by omega) (evNeg ?_ ?_))))))
        · rw [rdOf_nat l i hlt]; omega
        · rw [wrap_succ i (by omega)]; exact hb
      · refine ⟨false, ?_, fun h => by cases h⟩
        refine evStep (fun k => by rw [postilionref09_Few.l0]) (evPos (by omega) (evStep (fun k => by rw [postilionref09_Few.j1]) (evPos (by simp; omega) (evPos (by omega) (evPos (by omega) (evPos ?_ (Ev.now _)))))))
        rw [rdOf_nat l i hlt]; omega
    · obtain rfl : i = l.length := by omega
      refine ⟨decide ((l.length : Int) ≤ 40), ?_, fun hb => ?_⟩
      · exact evStep (fun k => by rw [postilionref09_Few.l0]) (evNeg (by omega) (evStep (fun k => by rw [postilionref09_Few.j1]) (evNeg (by simp) (Ev.now _))))
      · omega
theorem few09 (l : List ByteArray) : ∃ b, Ev (fun k => postilionref09_Few.f k l) b ∧ (b = true → l.length ≤ 40) := few09_loop l 40 0 rfl (Nat.zero_le _)

/-! ### put -/
def rest (l : List S47) (key : ByteArray) : List S47 := l.filter (fun x => !(L x.f0 == L key))
theorem rest_pos {y : S47} {t : List S47} {key : ByteArray} (h : y.f0.toList = key.toList) : rest (y :: t) key = rest t key := by
  rw [toL, toL] at h
  exact List.filter_cons_of_neg (by rw [Bool.not_eq_true', beq_eq_false_iff_ne]; exact fun e => e h)
theorem rest_neg {y : S47} {t : List S47} {key : ByteArray} (h : ¬ y.f0.toList = key.toList) : rest (y :: t) key = y :: rest t key := by
  rw [toL, toL] at h
  exact List.filter_cons_of_pos (by rw [Bool.not_eq_true', beq_eq_false_iff_ne]; exact h)
theorem put_cons (y : S47) (t : List S47) (p : S47) : put (y :: t) p = if ah p.f0 y = true then y :: put t p else p :: rest (y :: t) p.f0 := by
  unfold put front back rest
  by_cases h : ah p.f0 y = true
  · rw [if_pos h, List.takeWhile_cons_of_pos h, List.dropWhile_cons_of_pos h]
    rfl
  · rw [if_neg h, List.takeWhile_cons_of_neg h, List.dropWhile_cons_of_neg h]
    rfl
theorem put_nil (p : S47) : put [] p = [p] := rfl
theorem done_loop (l : List S47) (p : S47) (h : l.length < 1000000) (d : Nat) : ∀ (i : Nat) (out : List S47), i + d = l.length → out.length < 1000000 + i →
    Ev (fun k => postilionref21_put.l0 k l out true (i : Int) p.f0 p.f1) (out ++ rest (l.drop i) p.f0) := by
  induction d with
  | zero =>
    intro i out hi ho
    rw [List.drop_eq_nil_of_le (by omega), show rest [] p.f0 = [] from rfl, List.append_nil]
    exact evStep (fun k => by rw [postilionref21_put.l0]) (evNeg (by omega) (evPos rfl (Ev.now _)))
  | succ d ih =>
    intro i out hi ho
    have hlt : i < l.length := by omega
    rw [List.drop_eq_getElem_cons hlt]
    refine evStep (fun k => by rw [postilionref21_put.l0]) (evPos (by omega) (evPos rfl (evStep (fun k => by rw [postilionref21_put.j1]) (evNeg (by simp) (evPos (by omega) (evPos (by omega) ?_))))))
    rw [rd47 l i hlt, wrap_succ i (by omega)]
    by_cases he : l[i].f0.toList = p.f0.toList
    · rw [rest_pos he]
      exact evPos he (ih (i + 1) out (by omega) (by omega))
    · rw [rest_neg he]
      have g := ih (i + 1) (out ++ [l[i]]) (by omega) (by rw [List.length_append, List.length_singleton]; omega)
      rw [List.append_assoc] at g
      exact evNeg he (evPos (by omega) g)
theorem put_loop (l : List S47) (p : S47) (h : l.length < 1000000) (d : Nat) : ∀ (i : Nat) (out : List S47), i + d = l.length → out.length ≤ i →
    Ev (fun k => postilionref21_put.l0 k l out false (i : Int) p.f0 p.f1) (out ++ put (l.drop i) p) := by
  induction d with
  | zero =>
    intro i out hi ho
    rw [List.drop_eq_nil_of_le (by omega), put_nil]
    exact evStep (fun k => by rw [postilionref21_put.l0]) (evNeg (by omega) (evNeg (by simp) (evPos (by omega) (Ev.now _))))
  | succ d ih =>
    intro i out hi ho
    have hlt : i < l.length := by omega
    rw [List.drop_eq_getElem_cons hlt, put_cons]
    have hah : Op.bytesLess l[i].f0.toList p.f0.toList = ah p.f0 l[i] := by unfold ah; rw [toL, toL]
    refine evStep (fun k => by rw [postilionref21_put.l0]) (evPos (by omega) (evNeg (by simp) (evPos (by omega) (evStep (fun k => by rw [postilionref21_put.j1]) ?_))))
    rw [rd47 l i hlt, wrap_succ i (by omega), hah]
    by_cases ha : ah p.f0 l[i] = true
    · rw [if_pos ha, ha]
      have he : ¬ l[i].f0.toList = p.f0.toList := by
        intro e
        rw [← hah, e, less_irrefl] at ha
        cases ha
      have g := ih (i + 1) (out ++ [l[i]]) (by omega) (by rw [List.length_append, List.length_singleton]; omega)
      rw [List.append_assoc] at g
      exact evNeg (by simp) (evPos (by omega) (evPos (by omega) (evNeg he (evPos (by omega) g))))
    · rw [if_neg ha, Bool.eq_false_iff.2 ha]
      refine evPos rfl (evPos (by omega) (evBindSome rfl (evPos (by omega) (evPos (by omega) ?_))))
      have hl1 : (out ++ [p]).length = out.length + 1 := by rw [List.length_append, List.length_singleton]
      by_cases he : l[i].f0.toList = p.f0.toList
      · rw [rest_pos he]
        have g := done_loop l p h d (i + 1) (out ++ [p]) (by omega) (by omega)
        rw [List.append_assoc] at g
        exact evPos he g
      · rw [rest_neg he]
        have g := done_loop l p h d (i + 1) (out ++ [p] ++ [l[i]]) (by omega) (by rw [List.length_append, List.length_singleton]; omega)
        have er : out ++ [p] ++ [l[i]] ++ rest (l.drop (i + 1)) p.f0 = out ++ p :: l[i] :: rest (l.drop (i + 1)) p.f0 := by simp
        rw [er] at g
        exact evNeg he (evPos (show (out ++ [p]).length < 4398046511104 by omega) g)
theorem refPut (l : List S47) (p : S47) (h : l.length < 1000000) : Ev (fun k => postilionref21_put.f k l p.f0 p.f1) (put l p) := put_loop l p h l.length 0 [] (by omega) (Nat.le_refl _)

/-! ### set -/
theorem refSet_loop (ps : List S47) (h : ps.length < 1000) (hs : Small 900000 ps) (d : Nat) : ∀ (i : Nat) (out : List S47), i + d = ps.length → out.length ≤ 1000 + i →
    Ev (fun k => postilionref21_Set.l0 k out ps (i : Int)) (go out (ps.drop i)) := by
  induction d with
  | zero =>
    intro i out hi ho
    rw [List.drop_eq_nil_of_le (by omega), show go out [] = (out, 0) from rfl]
    exact evStep (fun k => by rw [postilionref21_Set.l0]) (evNeg (by omega) (Ev.now _))
  | succ d ih =>
    intro i out hi ho
    have hlt : i < ps.length := by omega
    rw [List.drop_eq_getElem_cons hlt, go]
    refine evStep (fun k => by rw [postilionref21_Set.l0]) (evPos (by omega) (evPos (by omega) ?_))
    rw [rd47 ps i hlt]
    refine Ev.bind (refCheck ps[i] (hs _ (List.getElem_mem hlt))) ?_
    unfold chk
    by_cases hk : okB ps[i] = true
    · rw [if_pos hk, if_pos hk]
      refine evPos rfl (Ev.bind (refPut out ps[i] (by omega)) ?_)
      rw [wrap_succ i (by omega)]
      have := put_len out ps[i]
      exact ih (i + 1) _ (by omega) (by omega)
    · rw [if_neg hk, if_neg hk]
      exact evNeg (by decide) (Ev.now _)
theorem refSet (l ps : List S47) (h : l.length < 1000) (h2 : ps.length < 1000) (hl : Small 900000 l) (hs : Small 900000 ps) : Ev (fun k => postilionref21_Set.f k l ps) (st l ps) := by
  refine Ev.bind (refRight l (by omega) hl) ?_
  unfold st
  by_cases hr : R l = true
  · rw [if_pos hr]
    have g := refSet_loop ps h2 hs ps.length 0 l (by omega) (by omega)
    exact evPos hr g
  · rw [if_neg hr]
    exact evNeg hr (Ev.now _)

/-! ### drop -/
theorem drop_keys (l : List S47) (keys : List ByteArray) (h : keys.length < 1000000) (out : List S47) (i : Nat) (hi : i < l.length) (hl : l.length < 1000000) (ho : out.length ≤ i) (r : List S47) (d : Nat) : ∀ (j : Nat) (b : Bool), j + d = keys.length →
    Ev (fun k => postilionref21_Drop.l0 k l keys (if (b || (keys.drop j).any (fun s => s.toList == l[i].f0.toList)) = true then out else out ++ [l[i]]) ((i + 1 : Nat) : Int)) r →
    Ev (fun k => postilionref21_Drop.l1 k l keys out (i : Int) b (j : Int)) r := by
  induction d with
  | zero =>
    intro j b hj g
    rw [List.drop_eq_nil_of_le (by omega), List.any_nil, Bool.or_false] at g
    refine evStep (fun k => by rw [postilionref21_Drop.l1]) (evNeg (by omega) ?_)
    rw [wrap_succ i (by omega), rd47 l i hi]
    by_cases hb : b = true
    · rw [if_pos hb] at g
      exact evPos hb g
    · rw [if_neg hb] at g
      exact evNeg hb (evPos (by omega) (evPos (by omega) (evPos (by omega) g)))
  | succ d ih =>
    intro j b hj g
    have hlt : j < keys.length := by omega
    rw [List.drop_eq_getElem_cons hlt, List.any_cons] at g
    refine evStep (fun k => by rw [postilionref21_Drop.l1]) (evPos (by omega) ?_)
    rw [wrap_succ j (by omega), rd47 l i hi, rdOf_nat keys j hlt]
    cases b with
    | true =>
      refine evPos rfl (ih (j + 1) true (by omega) ?_)
      rw [Bool.true_or] at g ⊢
      exact g
    | false =>
      refine evNeg (by simp) (evPos (by omega) (evPos (by omega) (evPos (by omega) (ih (j + 1) _ (by omega) ?_))))
      rw [Bool.false_or] at g
      exact g
theorem any_has (keys : List ByteArray) (x : S47) : keys.any (fun s => s.toList == x.f0.toList) = kv_Drop.has keys x := by
  rw [Bool.eq_iff_iff, has_iff, List.any_eq_true]
  constructor
  · rintro ⟨s, hs, e⟩
    have : L s = L x.f0 := by rw [← toL, ← toL]; exact eq_of_beq e
    rw [← L_inj this]
    exact hs
  · intro h
    exact ⟨_, h, beq_self_eq_true _⟩
theorem refDrop_loop (l : List S47) (keys : List ByteArray) (h : l.length < 1000000) (hk : keys.length < 1000000) (d : Nat) : ∀ (i : Nat) (out : List S47), i + d = l.length → out.length ≤ i →
    Ev (fun k => postilionref21_Drop.l0 k l keys out (i : Int)) (out ++ dr (l.drop i) keys) := by
  induction d with
  | zero =>
    intro i out hi ho
    rw [List.drop_eq_nil_of_le (by omega), show dr [] keys = [] from rfl, List.append_nil]
    exact evStep (fun k => by rw [postilionref21_Drop.l0]) (evNeg (by omega) (Ev.now _))
  | succ d ih =>
    intro i out hi ho
    have hlt : i < l.length := by omega
    rw [List.drop_eq_getElem_cons hlt]
    have gk : ∀ r, _ → Ev (fun k => postilionref21_Drop.l1 k l keys out (i : Int) false 0) r := fun r g => drop_keys l keys hk out i hlt h ho r keys.length 0 false (by omega) g
    refine evStep (fun k => by rw [postilionref21_Drop.l0]) (evPos (show (i : Int) < (l.length : Int) by omega) (gk _ ?_))
    rw [List.drop_zero, Bool.false_or, any_has]
    by_cases hh : kv_Drop.has keys l[i] = true
    · rw [if_pos hh, show dr (l[i] :: l.drop (i + 1)) keys = dr (l.drop (i + 1)) keys from List.filter_cons_of_neg (by simp [hh])]
      exact ih (i + 1) out (by omega) (by omega)
    · rw [if_neg hh, show dr (l[i] :: l.drop (i + 1)) keys = l[i] :: dr (l.drop (i + 1)) keys from List.filter_cons_of_pos (by simp [hh])]
      have g := ih (i + 1) (out ++ [l[i]]) (by omega) (by rw [List.length_append, List.length_singleton]; omega)
      rw [List.append_assoc] at g
      exact g
theorem refDrop (l : List S47) (keys : List ByteArray) (h : l.length < 1000000) (hk : keys.length < 1000000) : Ev (fun k => postilionref21_Drop.f k l keys) (dr l keys) := refDrop_loop l keys h hk l.length 0 [] (by omega) (Nat.le_refl _)

/-! ### the law -/
theorem small_mono {n m : Nat} (h : n ≤ m) {l : List S47} (hs : Small n l) : Small m l := fun x hx => ⟨Nat.le_trans (hs x hx).1 h, Nat.le_trans (hs x hx).2 h⟩
theorem asleep (l ps : List S47) (keys : List ByteArray) : Ev (fun k => postilionlaw21_KvSets.j0 k l ps keys true) true :=
  evStep (fun k => by rw [postilionlaw21_KvSets.j0]) (evPos rfl (Ev.bind awake (Ev.now _)))
theorem KvSets (l ps : List S47) (keys : List ByteArray) : ∃ k, postilionlaw21_KvSets.f k l ps keys = some true := by
  refine Ev.rounds ?_
  obtain ⟨b, hb, hp⟩ := few_ends l
  refine Ev.bind hb ?_
  cases b
  · exact evNeg (by simp) (asleep _ _ _)
  obtain ⟨b2, hb2, hp2⟩ := few_ends ps
  refine evPos rfl (Ev.bind hb2 ?_)
  cases b2
  · exact evNeg (by simp) (asleep _ _ _)
  obtain ⟨b3, hb3, hp3⟩ := few09 keys
  refine evPos rfl (Ev.bind hb3 ?_)
  cases b3
  · exact asleep _ _ _
  obtain ⟨hl, hs⟩ := hp rfl
  obtain ⟨hl2, hs2⟩ := hp2 rfl
  have hl3 := hp3 rfl
  refine evStep (fun k => by rw [postilionlaw21_KvSets.j0]) (evNeg (by simp) ?_)
  have h1 := st_len l ps
  have h2 := dr_len l keys
  refine Ev.bind (kvSet l ps (by omega) (by omega)) (Ev.bind (refSet l ps (by omega) (by omega) (small_mono (by omega) hs) (small_mono (by omega) hs2)) (Ev.bind (same _ (by omega)) (evPos rfl (evPos rfl ?_))))
  exact evBindSome (kvDrop l keys (by omega)) (Ev.bind (refDrop l keys (by omega) (by omega)) (Ev.bind (same _ (by omega)) (evPos rfl (Ev.bind awake (Ev.now _)))))
end Go.Proofs.Ytbgndegdegfebaa.PureY
