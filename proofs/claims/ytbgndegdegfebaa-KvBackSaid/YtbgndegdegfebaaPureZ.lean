/- The plain law of KvBack. No program in sight. -/
import Derived.Test.YtbgndegdegfebaaPureV
import Derived.Test.YtbgndegdegfebaaPureX
import Derived.Test.YtbgndegdegfebaaK20
namespace Go.Proofs.Ytbgndegdegfebaa.PureZ
open Go.RowKit Go.Proofs.YtbgndegdegfebaaW.PrintWords Go.Proofs.YtbgndegdegfebaaW.PrintLast Go.Proofs.YtbgndegdegfebaaW.PrintMore Go.Proofs.Ytbgndegdegfebaa.K Go.Proofs.Ytbgndegdegfebaa.Pure0 Go.Proofs.Ytbgndegdegfebaa.PureU Go.Proofs.Ytbgndegdegfebaa.PureV Go.Proofs.Ytbgndegdegfebaa.PureX
set_option linter.unusedVariables false
set_option linter.unusedSimpArgs false

/-! ### what is printed is parsed to what it was -/
theorem rt_ok : ∀ (l : List S47) (p : Option S47), rt p l = true → ∀ x ∈ l, okB x = true
  | [], p, _, x, hx => absurd hx (List.not_mem_nil)
  | y :: l, p, h, x, hx => by
    rw [rt, Bool.and_eq_true, Bool.and_eq_true] at h
    rcases List.mem_cons.1 hx with rfl | hx
    · exact h.1
    · exact rt_ok l (some y) h.2.2 x hx
theorem ok_key {x : S47} (h : okB x = true) : ∀ b ∈ L x.f0, kv_key.okC b.toNat = true := by
  unfold okB keyB kv_key.allB at h
  simp only [Bool.and_eq_true] at h
  exact List.all_eq_true.1 h.1.1
theorem ok_val {x : S47} (h : okB x = true) : ∀ b ∈ L x.f1, kv_value.okC b.toNat = true := by
  unfold okB valB kv_value.allB at h
  simp only [Bool.and_eq_true] at h
  exact List.all_eq_true.1 h.2.1
theorem ln_all : ∀ (l : List S47), (∀ x ∈ l, okB x = true) → Ln (all l) (some l)
  | [], _ => .nil
  | y :: l, h => by
    have ih := ln_all l (fun x hx => h x (List.mem_cons_of_mem _ hx))
    have hy := h y (List.mem_cons_self ..)
    have k10 : (10 : UInt8) ∉ L y.f0 := fun hm => by have := ok_key hy 10 hm; revert this; decide
    have k61 : (61 : UInt8) ∉ L y.f0 := fun hm => by have := ok_key hy 61 hm; revert this; decide
    have v10 : (10 : UInt8) ∉ L y.f1 := fun hm => by have := ok_val hy 10 hm; revert this; decide
    have g := Ln.go (a := L y.f0) (v := L y.f1) k10 k61 v10 ih
    rw [all_cons]
    rw [B_L, B_L] at g
    exact g
theorem all_ln {t : List UInt8} {r : Option (List S47)} (h : Ln t r) : ∀ l, r = some l → all l = t := by
  induction h with
  | nil => intro l e; cases e; rfl
  | nol => intro l e; cases e
  | noe => intro l e; cases e
  | @go a v q r h1 h2 h3 hq ih =>
    intro l e
    cases r with
    | none => cases e
    | some l' =>
      cases e
      rw [all_cons, ih l' rfl, L_B, L_B]

/-! ### what was put is found; what is dropped is gone -/
theorem ge_put (l : List S47) (p : S47) : ge (put l p) p.f0 = (p.f1, true) := by
  unfold ge put
  rw [List.find?_append, List.find?_eq_none.2 (fun x hx => by
    have ha : Op.bytesLess (L x.f0) (L p.f0) = true := front_ah hx
    intro e
    have e2 : L x.f0 = L p.f0 := by rw [← toL, ← toL]; exact eq_of_beq e
    rw [e2, less_irrefl] at ha
    cases ha), Option.none_or, List.find?_cons_of_pos (by simp)]
theorem has_one (key : ByteArray) (x : S47) : kv_Drop.has [key] x = true ↔ L x.f0 = L key := by
  rw [has_iff, List.mem_singleton]
  exact ⟨fun e => by rw [e], fun e => L_inj e⟩
theorem dr_put (l : List S47) (p : S47) : dr (put l p) [p.f0] = dr l [p.f0] := by
  have e := List.takeWhile_append_dropWhile (p := ah p.f0) (l := l)
  unfold dr put front back
  conv => rhs; rw [← e]
  rw [List.filter_append, List.filter_append, List.filter_cons_of_neg (by
    rw [(has_one p.f0 p).2 rfl]; simp)]
  congr 1
  rw [List.filter_filter]
  refine List.filter_congr (fun x _ => ?_)
  have : kv_Drop.has [p.f0] x = (L x.f0 == L p.f0) := by
    rw [Bool.eq_iff_iff, has_one]
    exact ⟨fun h => beq_iff_eq.2 h, fun h => beq_iff_eq.1 h⟩
  rw [this, Bool.and_self]

/-! ### the law -/
theorem small_mono {n m : Nat} (h : n ≤ m) {l : List S47} (hs : Small n l) : Small m l := fun x hx => ⟨Nat.le_trans (hs x hx).1 h, Nat.le_trans (hs x hx).2 h⟩
theorem asleep (l : List S47) (t a b : ByteArray) : Ev (fun k => postilionlaw21_KvBack.j0 k l t true a b) true :=
  evStep (fun k => by rw [postilionlaw21_KvBack.j0]) (evPos rfl (Ev.bind awake (Ev.now _)))
theorem last (l : List S47) (a b : ByteArray) (hl : l.length < 1000) : Ev (fun k => postilionlaw21_KvBack.j2 k l a b) true := by
  refine evStep (fun k => by rw [postilionlaw21_KvBack.j2]) (Ev.bind (kvSet l [⟨a, b⟩] (by omega) (by simp)) ?_)
  unfold st
  by_cases hr : R l = true
  · rw [if_pos hr, go]
    by_cases ho : okB ⟨a, b⟩ = true
    · rw [if_pos ho, go]
      have hg := ge_put l ⟨a, b⟩
      have hd := dr_put l ⟨a, b⟩
      have hlen := put_len l ⟨a, b⟩
      have hd2 := dr_len l [a]
      refine evPos rfl (evBindSome (kvGet (put l ⟨a, b⟩) a) ?_)
      rw [show ge (put l ⟨a, b⟩) a = (b, true) from hg]
      refine evPos rfl (evPos rfl (evBindSome (kvDrop (put l ⟨a, b⟩) [a] (by omega)) (evBindSome (kvDrop l [a] (by omega)) ?_)))
      rw [show dr (put l ⟨a, b⟩) [a] = dr l [a] from hd]
      exact Ev.bind (same _ (by omega)) (evPos rfl (Ev.bind awake (Ev.now _)))
    · rw [if_neg ho]
      exact evNeg (by decide) (evPos (by simp) (Ev.bind awake (Ev.now _)))
  · rw [if_neg hr]
    exact evNeg (by decide) (evPos (by simp) (Ev.bind awake (Ev.now _)))
theorem back2 (l : List S47) (t a b : ByteArray) (hl : l.length < 1000) : Ev (fun k => postilionlaw21_KvBack.j1 k l t a b) true := by
  obtain ⟨r, hr⟩ := ln_total _ (L t) (Nat.le_refl _)
  refine evStep (fun k => by rw [postilionlaw21_KvBack.j1]) (Ev.bind (kvParse t hr) ?_)
  have hlen := pa_len t hr
  unfold pa at hlen ⊢
  by_cases h4 : 496 < t.size
  · rw [if_pos h4]
    exact evNeg (by decide) (last l a b hl)
  rw [if_neg h4] at hlen ⊢
  cases r with
  | none => exact evNeg (by simp [fin]) (last l a b hl)
  | some m =>
    unfold fin at hlen ⊢
    simp only [List.nil_append] at hlen ⊢
    by_cases hm : R m = true
    · rw [if_pos hm] at hlen ⊢
      have ha := all_ln hr m rfl
      have hz : (all m).length = t.size := by rw [ha, size_L]
      refine evPos rfl (Ev.bind (kvPrint m hlen (by omega)) ?_)
      unfold pr
      rw [if_pos hm, if_neg (by omega)]
      refine evPos ?_ (evPos rfl (last l a b hl))
      rw [toL, toL, L_B, ha]
    · rw [if_neg hm]
      exact evNeg (by decide) (last l a b hl)
theorem KvBack (l : List S47) (a b t : ByteArray) : ∃ k, postilionlaw21_KvBack.f k l a b t = some true := by
  refine Ev.rounds ?_
  obtain ⟨c, hb, hp⟩ := few_ends l
  refine Ev.bind hb ?_
  cases c
  · exact evNeg (by simp) (asleep _ _ _ _)
  obtain ⟨c2, hb2, hp2⟩ := few_ends [⟨a, b⟩]
  refine evPos rfl (Ev.bind hb2 ?_)
  cases c2
  · exact evNeg (by simp) (asleep _ _ _ _)
  refine evPos rfl ?_
  by_cases h6 : (t.size : Int) > 600
  · rw [decide_eq_true h6]; exact asleep _ _ _ _
  rw [decide_eq_false h6]
  obtain ⟨hl, hs⟩ := hp rfl
  have ha := all_len 200 l hs
  have ha2 : l.length * (2 * 200 + 2) ≤ 20 * (2 * 200 + 2) := Nat.mul_le_mul_right _ hl
  refine evStep (fun k => by rw [postilionlaw21_KvBack.j0]) (evNeg (by simp) (Ev.bind (kvPrint l (by omega) (by omega)) ?_))
  unfold pr
  by_cases hr : R l = true
  · rw [if_pos hr]
    by_cases h4 : 496 < (all l).length
    · rw [if_pos h4]
      exact evNeg (by decide) (back2 l t a b (by omega))
    · rw [if_neg h4]
      have hln := ln_all l (rt_ok l none hr)
      have hpa : pa (B (all l)) (some l) = (l, 0) := by
        unfold pa fin
        rw [size_B, if_neg h4]
        simp only [List.nil_append]
        rw [if_pos hr]
      refine evPos rfl (Ev.bind (kvParse (B (all l)) (r := some l) (by rw [L_B]; exact hln)) ?_)
      rw [hpa]
      exact Ev.bind (same l (by omega)) (evPos rfl (evPos rfl (back2 l t a b (by omega))))
  · rw [if_neg hr]
    exact evNeg (by decide) (back2 l t a b (by omega))
end Go.Proofs.Ytbgndegdegfebaa.PureZ
