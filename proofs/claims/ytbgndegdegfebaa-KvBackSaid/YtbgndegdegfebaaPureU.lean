/- Plain laws of layer 21 (kv): what its functions come to, by lists. No program in sight. -/
import Derived.Test.YtbgndegdegfebaaPure0
import Derived.Sort.Walk0
import Derived.Lib.SlicesS
import Derived.Test.YtbgndegdegfebaaK2
import Derived.Test.YtbgndegdegfebaaK5
import Derived.Test.YtbgndegdegfebaaK10
import Derived.Test.YtbgndegdegfebaaK14
import Derived.Test.YtbgndegdegfebaaK15
namespace Go.Proofs.Ytbgndegdegfebaa.PureU
open Go.RowKit Go.Proofs.YtbgndegdegfebaaW.PrintWords Go.Proofs.YtbgndegdegfebaaW.PrintLast Go.Proofs.YtbgndegdegfebaaW.PrintMore Go.Proofs.Ytbgndegdegfebaa.K Go.Proofs.Ytbgndegdegfebaa.Pure0
set_option linter.unusedVariables false
set_option linter.unusedSimpArgs false

theorem awake : Ev postilionlaw21_awake.f true := Ev.of (k := 60) (fun k => postilionlaw21_awake.mono k) (by kernel_rfl)
theorem rd47 (l : List S47) (i : Nat) (h : i < l.length) : rd_T47 l (i : Int) = l[i] := by
  rw [rd_T47, Int.toNat_natCast, List.getD_eq_getElem?_getD, List.getElem?_eq_getElem h]
  rfl
def small (n : Nat) (x : S47) : Prop := x.f0.size ≤ n ∧ x.f1.size ≤ n

/-! ### few -/
theorem few_loop (l : List S47) (d : Nat) : ∀ i : Nat, i + d = 20 → i ≤ l.length → (∀ j (h : j < l.length), j < i → small 200 l[j]) →
    ∃ b, Ev (fun k => postilionref21_Few.l0 k l (i : Int)) b ∧ (b = true → l.length ≤ 20 ∧ ∀ j (h : j < l.length), small 200 l[j]) := by
  induction d with
  | zero =>
    intro i hi hl hs
    obtain rfl : i = 20 := by omega
    refine ⟨decide ((l.length : Int) ≤ 20), ?_, fun hb => ?_⟩
    · by_cases hlt : ((20 : Nat) : Int) < (l.length : Int)
      · exact evStep (fun k => by rw [postilionref21_Few.l0]) (evPos hlt (evStep (fun k => by rw [postilionref21_Few.j1]) (evNeg (by simp) (Ev.now _))))
      · exact evStep (fun k => by rw [postilionref21_Few.l0]) (evNeg hlt (evStep (fun k => by rw [postilionref21_Few.j1]) (evNeg (by simp) (Ev.now _))))
    · have h20 : (l.length : Int) ≤ 20 := of_decide_eq_true hb
      exact ⟨by omega, fun j h => hs j h (by omega)⟩
  | succ d ih =>
    intro i hi hl hs
    by_cases hlt : i < l.length
    · by_cases hsz : l[i].f0.size ≤ 100
      · by_cases hsz2 : l[i].f1.size ≤ 200
        · obtain ⟨b, hb, hp⟩ := ih (i + 1) (by omega) (by omega) (fun j h hj => by
            rcases (by omega : j < i ∨ j = i) with h' | rfl
            · exact hs j h h'
            · exact ⟨by omega, hsz2⟩)
          refine ⟨b, ?_, hp⟩
          refine evStep (fun k => by rw [postilionref21_Few.l0]) (evPos (by omega) (evStep (fun k => by rw [postilionref21_Few.j1]) (evPos (by simp; omega) (evPos (by omega) (evPos (by omega) (evNeg ?_ (evNeg ?_ ?_)))))))
          · rw [rd47 l i hlt]; omega
          · rw [rd47 l i hlt]; omega
          · rw [wrap_succ i (by omega)]; exact hb
        · refine ⟨false, ?_, fun h => by cases h⟩
          refine evStep (fun k => by rw [postilionref21_Few.l0]) (evPos (by omega) (evStep (fun k => by rw [postilionref21_Few.j1]) (evPos (by simp; omega) (evPos (by omega) (evPos (by omega) (evNeg ?_ (evPos ?_ (Ev.now _))))))))
          · rw [rd47 l i hlt]; omega
          · rw [rd47 l i hlt]; omega
      · refine ⟨false, ?_, fun h => by cases h⟩
        refine evStep (fun k => by rw [postilionref21_Few.l0]) (evPos (by omega) (evStep (fun k => by rw [postilionref21_Few.j1]) (evPos (by simp; omega) (evPos (by omega) (evPos (by omega) (evPos ?_ (Ev.now _)))))))
        rw [rd47 l i hlt]; omega
    · obtain rfl : i = l.length := by omega
      refine ⟨decide ((l.length : Int) ≤ 20), ?_, fun hb => ?_⟩
      · exact evStep (fun k => by rw [postilionref21_Few.l0]) (evNeg (by omega) (evStep (fun k => by rw [postilionref21_Few.j1]) (evNeg (by simp) (Ev.now _))))
      · exact ⟨by omega, fun j h => hs j h h⟩
def Small (n : Nat) (l : List S47) : Prop := ∀ x ∈ l, small n x
theorem few_ends (l : List S47) : ∃ b, Ev (fun k => postilionref21_Few.f k l) b ∧ (b = true → l.length ≤ 20 ∧ Small 200 l) := by
  obtain ⟨b, hb, hp⟩ := few_loop l 20 0 rfl (Nat.zero_le _) (fun j h hj => absurd hj (Nat.not_lt_zero _))
  refine ⟨b, hb, fun e => ⟨(hp e).1, fun x hx => ?_⟩⟩
  obtain ⟨j, h, rfl⟩ := List.getElem_of_mem hx
  exact (hp e).2 j h

/-! ### same -/
theorem same_loop (l : List S47) (h : l.length < 1000000) (d : Nat) : ∀ i : Nat, i + d = l.length → Ev (fun k => postilionref21_Same.l0 k l l (i : Int)) true := by
  induction d with
  | zero =>
    intro i hi
    exact evStep (fun k => by rw [postilionref21_Same.l0]) (evNeg (by omega) (evStep (fun k => by rw [postilionref21_Same.j1]) (evNeg (by simp) (Ev.now _))))
  | succ d ih =>
    intro i hi
    refine evStep (fun k => by rw [postilionref21_Same.l0]) (evPos (by omega) (evStep (fun k => by rw [postilionref21_Same.j1]) (evPos (by simp; omega) (evPos (by omega) (evPos (by omega) (evPos (by omega) (evNeg (by simp) ?_)))))))
    rw [wrap_succ i (by omega)]
    exact ih (i + 1) (by omega)
theorem same (l : List S47) (h : l.length < 1000000) : Ev (fun k => postilionref21_Same.f k l l) true :=
  evPos rfl (same_loop l h l.length 0 (by omega))

/-! ### a key, a value, a pair -/
def keyB (s : ByteArray) : Bool := kv_key.allB s && (!s.toList.isEmpty && decide (s.size ≤ 31))
def valB (s : ByteArray) : Bool := kv_value.allB s && decide (s.size ≤ 120)
def okB (x : S47) : Bool := keyB x.f0 && valB x.f1
def chk (x : S47) : Int := if okB x = true then 0 else 1
theorem kvCheck (x : S47) : kv_Check.f x.f0 x.f1 = some (chk x) := by
  unfold kv_Check.f kv_key.f kv_value.f chk okB
  show (some (keyB x.f0)).bind _ = _
  rw [Option.bind_some]
  cases keyB x.f0
  · rfl
  · rw [if_pos rfl]
    show (some (valB x.f1)).bind _ = _
    rw [Option.bind_some]
    cases valB x.f1 <;> rfl
theorem key_loop (s : ByteArray) (h : s.size < 1000000) (d : Nat) : ∀ i : Nat, i + d = (L s).length →
    Ev (fun k => postilionref21_key.l0 k s (i : Int)) (((L s).drop i).all (fun b => kv_key.okC b.toNat) && (!s.toList.isEmpty && decide (s.size ≤ 31))) := by
  have hz : s.size = (L s).length := size_L s
  induction d with
  | zero =>
    intro i hi
    rw [List.drop_eq_nil_of_le (by omega), List.all_nil, Bool.true_and, toL]
    refine evStep (fun k => by rw [postilionref21_key.l0]) (evNeg (by omega) ?_)
    by_cases h0 : L s = []
    · have : (L s).length = 0 := by rw [h0]; rfl
      refine evNeg (by omega) (evSome ?_)
      rw [h0]; rfl
    · have : (L s).length ≠ 0 := fun e => h0 (List.length_eq_zero_iff.1 e)
      refine evPos (by omega) (evSome ?_)
      rw [List.isEmpty_eq_false_iff.2 h0, Bool.not_false, Bool.true_and]
      exact decide_eq_decide.2 (by omega)
  | succ d ih =>
    intro i hi
    have hlt : i < (L s).length := by omega
    have g := ih (i + 1) (by omega)
    rw [List.drop_eq_getElem_cons hlt, List.all_cons]
    have hb := bt_get s i hlt
    generalize (L s)[i].toNat = n at hb ⊢
    have go : ∀ {r}, r = (kv_key.okC n && ((L s).drop (i + 1)).all (fun b => kv_key.okC b.toNat) && (!s.toList.isEmpty && decide (s.size ≤ 31))) → kv_key.okC n = true → Ev (fun k => postilionref21_key.l0 k s (wrap64 ((i : Int) + 1))) r := by
      intro r hr ho
      rw [wrap_succ i (by omega), hr, ho, Bool.true_and]
      exact g
    have no : ∀ {r}, r = (kv_key.okC n && ((L s).drop (i + 1)).all (fun b => kv_key.okC b.toNat) && (!s.toList.isEmpty && decide (s.size ≤ 31))) → kv_key.okC n = false → Ev (fun k => some false) r := by
      intro r hr ho
      rw [hr, ho, Bool.false_and, Bool.false_and]
      exact Ev.now _
    refine evStep (fun k => by rw [postilionref21_key.l0]) (evPos (by omega) (evPos (by omega) ?_))
    rw [hb]
    by_cases h1 : 97 ≤ n
    · refine evPos (by omega) ?_
      by_cases h2 : n ≤ 122
      · exact evPos (by omega) (go rfl (by simp [kv_key.okC]; omega))
      · exact evNeg (by omega) (evPos (by omega) (evNeg (by omega) (evNeg (by omega) (no rfl (by simp [kv_key.okC]; omega)))))
    · refine evNeg (by omega) ?_
      by_cases h3 : 48 ≤ n
      · refine evPos (by omega) ?_
        by_cases h4 : n ≤ 57
        · exact evPos (by omega) (go rfl (by simp [kv_key.okC]; omega))
        · exact evNeg (by omega) (evNeg (by omega) (no rfl (by simp [kv_key.okC]; omega)))
      · refine evNeg (by omega) ?_
        by_cases h5 : n = 46
        · exact evPos (by omega) (go rfl (by simp [kv_key.okC]; omega))
        · exact evNeg (by omega) (no rfl (by simp [kv_key.okC]; omega))
theorem refKey (s : ByteArray) (h : s.size < 1000000) : Ev (fun k => postilionref21_key.f k s) (keyB s) := by
  have := key_loop s h (L s).length 0 (by omega)
  rw [List.drop_zero] at this
  exact this
theorem check_loop (x : S47) (h : small 900000 x) (d : Nat) : ∀ i : Nat, i + d = (L x.f1).length →
    Ev (fun k => postilionref21_Check.l0 k (i : Int) x.f0 x.f1) (if (((L x.f1).drop i).all (fun b => kv_value.okC b.toNat) && decide (x.f1.size ≤ 120) && keyB x.f0) = true then 0 else 1) := by
  have hz : x.f1.size = (L x.f1).length := size_L _
  obtain ⟨h0, h1⟩ := h
  induction d with
  | zero =>
    intro i hi
    rw [List.drop_eq_nil_of_le (by omega), List.all_nil, Bool.true_and]
    refine evStep (fun k => by rw [postilionref21_Check.l0]) (evNeg (by omega) (Ev.bind (refKey x.f0 (by omega)) ?_))
    cases keyB x.f0
    · refine evNeg (by simp) (evSome ?_)
      rw [Bool.and_false]; rfl
    · refine evPos rfl ?_
      by_cases h3 : x.f1.size ≤ 120
      · refine evNeg (by omega) (evSome ?_)
        rw [decide_eq_true h3]; rfl
      · refine evPos (by omega) (evSome ?_)
        rw [decide_eq_false h3]; rfl
  | succ d ih =>
    intro i hi
    have hlt : i < (L x.f1).length := by omega
    have g := ih (i + 1) (by omega)
    rw [List.drop_eq_getElem_cons hlt, List.all_cons]
    have hb := bt_get x.f1 i hlt
    generalize (L x.f1)[i].toNat = n at hb ⊢
    refine evStep (fun k => by rw [postilionref21_Check.l0]) (evPos (by omega) (evPos (by omega) ?_))
    rw [hb]
    by_cases h1 : n < 32
    · refine evPos (by omega) (evSome ?_)
      rw [show kv_value.okC n = false from by simp [kv_value.okC]; omega]; rfl
    refine evNeg (by omega) ?_
    by_cases h2 : 126 < n
    · refine evPos (by omega) (evSome ?_)
      rw [show kv_value.okC n = false from by simp [kv_value.okC]; omega]; rfl
    refine evNeg (by omega) ?_
    rw [wrap_succ i (by omega), show kv_value.okC n = true from by simp [kv_value.okC]; omega, Bool.true_and]
    exact g
theorem refCheck (x : S47) (h : small 900000 x) : Ev (fun k => postilionref21_Check.f k x.f0 x.f1) (chk x) := by
  have := check_loop x h (L x.f1).length 0 (by omega)
  rw [List.drop_zero] at this
  have e : (((L x.f1)).all (fun b => kv_value.okC b.toNat) && decide (x.f1.size ≤ 120) && keyB x.f0) = okB x := by
    unfold okB valB kv_value.allB
    rw [Bool.and_comm]
  rw [e] at this
  exact this

/-! ### right -/
def lt (a b : ByteArray) : Bool := Op.bytesLess a.toList b.toList
def pv (l : List S47) (i : Nat) : Option S47 := if i = 0 then none else l[i - 1]?
def aft (p : Option S47) (x : S47) : Bool := match p with
  | none => true
  | some q => lt q.f0 x.f0
def rt : Option S47 → List S47 → Bool
  | _, [] => true
  | p, x :: r => okB x && (aft p x && rt (some x) r)
def R (l : List S47) : Bool := rt none l
theorem pv_succ (l : List S47) (i : Nat) (h : i < l.length) : pv l (i + 1) = some l[i] := by
  unfold pv
  rw [if_neg (by omega), Nat.add_sub_cancel, List.getElem?_eq_getElem h]
theorem wrap_pred (i : Nat) (h : 0 < i) (h1 : i < 1000000) : wrap64 ((i : Int) - 1) = ((i - 1 : Nat) : Int) := by unfold wrap64; omega
theorem aft_pos (l : List S47) (i : Nat) (h : 0 < i) (hl : i < l.length) (x : S47) : aft (pv l i) x = Op.bytesLess (l[i - 1].f0.toList) x.f0.toList := by
  unfold pv
  rw [if_neg (by omega), List.getElem?_eq_getElem (by omega)]
  rfl
theorem kvRight_loop (l : List S47) (h : l.length < 1000000) (d : Nat) : ∀ i : Nat, i + d = l.length →
    Ev (fun k => kv_right.l0 k l l (l.length : Int) (i : Int)) (rt (pv l i) (l.drop i)) := by
  induction d with
  | zero =>
    intro i hi
    rw [List.drop_eq_nil_of_le (by omega), show rt (pv l i) [] = true from by rw [rt]]
    exact evStep (fun k => by rw [kv_right.l0]) (evNeg (by omega) (Ev.now _))
  | succ d ih =>
    intro i hi
    have hlt : i < l.length := by omega
    have g := ih (i + 1) (by omega)
    rw [pv_succ l i hlt] at g
    rw [List.drop_eq_getElem_cons hlt, rt]
    refine evStep (fun k => by rw [kv_right.l0]) (evPos (by omega) (evPos (by omega) (evPos (by omega) ?_)))
    rw [rd47 l i hlt]
    refine evBindSome (kvCheck l[i]) ?_
    unfold chk
    by_cases ho : okB l[i] = true
    · rw [if_pos ho, ho, Bool.true_and]
      refine evPos rfl ?_
      by_cases hi0 : i = 0
      · subst hi0
        refine evNeg (by omega) ?_
        rw [wrap_succ 0 (by omega)]
        exact g
      · rw [aft_pos l i (by omega) hlt, wrap_pred i (by omega) (by omega), rd47 l (i - 1) (by omega)]
        refine evPos (by omega) (evPos (by omega) (evPos (by omega) ?_))
        cases Op.bytesLess (l[i - 1].f0.toList) (l[i].f0.toList)
        · exact evNeg (by simp) (Ev.now _)
        · refine evPos rfl ?_
          rw [wrap_succ i (by omega), Bool.true_and]
          exact g
    · rw [if_neg ho, Bool.eq_false_iff.2 ho, Bool.false_and]
      exact evNeg (by decide) (Ev.now _)
theorem kvRight (l : List S47) (h : l.length < 1000000) : Ev (fun k => kv_right.f k l) (R l) := kvRight_loop l h l.length 0 (by omega)
theorem refRight_loop (l : List S47) (h : l.length < 1000000) (hs : Small 900000 l) (d : Nat) : ∀ i : Nat, i + d = l.length →
    Ev (fun k => postilionref21_Right.l0 k l (i : Int)) (rt (pv l i) (l.drop i)) := by
  induction d with
  | zero =>
    intro i hi
    rw [List.drop_eq_nil_of_le (by omega), show rt (pv l i) [] = true from by rw [rt]]
    exact evStep (fun k => by rw [postilionref21_Right.l0]) (evNeg (by omega) (Ev.now _))
  | succ d ih =>
    intro i hi
    have hlt : i < l.length := by omega
    have g := ih (i + 1) (by omega)
    rw [pv_succ l i hlt] at g
    rw [List.drop_eq_getElem_cons hlt, rt]
    refine evStep (fun k => by rw [postilionref21_Right.l0]) (evPos (by omega) (evPos (by omega) ?_))
    rw [rd47 l i hlt]
    refine Ev.bind (refCheck l[i] (hs _ (List.getElem_mem hlt))) ?_
    unfold chk
    by_cases ho : okB l[i] = true
    · rw [if_pos ho, ho, Bool.true_and]
      refine evPos rfl ?_
      by_cases hi0 : i = 0
      · subst hi0
        refine evNeg (by omega) ?_
        rw [wrap_succ 0 (by omega)]
        exact g
      · rw [aft_pos l i (by omega) hlt, wrap_pred i (by omega) (by omega), rd47 l (i - 1) (by omega)]
        refine evPos (by omega) (evPos (by omega) (evPos (by omega) ?_))
        cases Op.bytesLess (l[i - 1].f0.toList) (l[i].f0.toList)
        · exact evNeg (by simp) (Ev.now _)
        · refine evPos rfl ?_
          rw [wrap_succ i (by omega), Bool.true_and]
          exact g
    · rw [if_neg ho, Bool.eq_false_iff.2 ho, Bool.false_and]
      exact evNeg (by decide) (Ev.now _)
theorem refRight (l : List S47) (h : l.length < 1000000) (hs : Small 900000 l) : Ev (fun k => postilionref21_Right.f k l) (R l) := refRight_loop l h hs l.length 0 (by omega)
end Go.Proofs.Ytbgndegdegfebaa.PureU
