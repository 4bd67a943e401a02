/- Plain laws of layer 44 (lex): what the document's reader answers, by what the source reads as: what stands between, a text. No program in sight. -/
import Derived.Test.YtbgndegdegfebaaPureO
import Derived.Test.YtbgndegdegfebaaQ21
namespace Go.Proofs.Ytbgndegdegfebaa.PureP
open Go.RowKit Go.Proofs.YtbgndegdegfebaaW.PrintWords Go.Proofs.YtbgndegdegfebaaW.PrintLast Go.Proofs.YtbgndegdegfebaaW.PrintMore Go.Proofs.Ytbgndegdegfebaa.Q Go.Proofs.Ytbgndegdegfebaa.Pure0 Go.Proofs.Ytbgndegdegfebaa.PureM Go.Proofs.Ytbgndegdegfebaa.PureN Go.Proofs.Ytbgndegdegfebaa.PureL Go.Proofs.Ytbgndegdegfebaa.PureO
set_option linter.unusedVariables false
set_option linter.unusedSimpArgs false

theorem wrap_2 (i : Nat) (h : i + 2 < 9223372036854775807) : wrap64 ((i : Int) + 2) = ((i + 2 : Nat) : Int) := by unfold wrap64; omega
theorem wrap_4 (i : Nat) (h : i + 4 < 9223372036854775807) : wrap64 ((i : Int) + 4) = ((i + 4 : Nat) : Int) := by unfold wrap64; omega
theorem drop_cons {s t : List UInt8} {c : UInt8} {i : Nat} (h : s.drop i = c :: t) : i < s.length ∧ bt (B s) (i : Int) = (c.toNat : Int) ∧ s.drop (i + 1) = t ∧ (s.drop i).length = t.length + 1 ∧ s.length - i = t.length + 1 := by
  have hi : i < s.length := by
    have := congrArg List.length h
    rw [List.length_drop, List.length_cons] at this
    omega
  have hd := List.drop_eq_getElem_cons hi
  rw [h] at hd
  obtain ⟨h1, h2⟩ := List.cons.inj hd
  refine ⟨hi, ?_, h2.symm, by rw [h]; rfl, ?_⟩
  · rw [bt_get (B s) i hi, h1]
  · have := congrArg List.length h
    rw [List.length_drop, List.length_cons] at this
    exact this
theorem at_ref (s p : List UInt8) (i : Nat) (hi : i ≤ s.length) (hs : s.length < 100000000) (hp : p.length < 100) :
    postilionref44_at.f (B s) (i : Int) (B p) = some (p.isPrefixOf (s.drop i)) := by
  unfold postilionref44_at.f
  rw [size_B, size_B, wrap_add _ _ (by omega)]
  by_cases h : i + p.length ≤ s.length
  · rw [if_pos (by omega), if_pos (by omega), if_pos (by omega), Int.toNat_natCast, Int.toNat_natCast, toL, L_ext, L_B, toL, L_B]
    congr 1
    rw [Bool.eq_iff_iff, beq_iff_eq, List.isPrefixOf_iff_prefix, List.prefix_iff_eq_take, show i + p.length - i = p.length from by omega]
    exact eq_comm
  · rw [if_neg (by omega)]
    congr 1
    symm
    rw [Bool.eq_false_iff]
    intro hq
    have := (List.isPrefixOf_iff_prefix.1 hq).length_le
    rw [List.length_drop] at this
    omega
abbrev R2 := Int × Bool
theorem line_ref (s : List UInt8) (R : R2) (hs : s.length < 100000000) : ∀ (t : List UInt8) (i : Nat), s.drop i = t → i ≤ s.length →
    Ev (fun k => postilionref44_skip.l0 k (B s) ((s.length - (eol t).length : Nat) : Int)) R → Ev (fun k => postilionref44_skip.l1 k (B s) (i : Int)) R
  | [], i, h, hi, hE => by
    have hl : s.length ≤ i := List.drop_eq_nil_iff.1 h
    refine evStep (fun k => by rw [postilionref44_skip.l1]) ?_
    refine evNeg (by rw [size_B]; omega) ?_
    rw [show (i : Int) = ((s.length - (eol []).length : Nat) : Int) from by simp [eol]; omega]
    exact hE
  | c :: t, i, h, hi, hE => by
    obtain ⟨h1, h2, h3, h4, h5⟩ := drop_cons h
    refine evStep (fun k => by rw [postilionref44_skip.l1]) ?_
    refine evPos (by rw [size_B]; omega) (evPos (by omega) ?_)
    rw [h2]
    by_cases hc : c = 10
    · refine evPos (by rw [hc]; rfl) ?_
      subst hc
      rw [show (i : Int) = ((s.length - (eol (10 :: t)).length : Nat) : Int) from by simp [eol]; omega]
      exact hE
    · refine evNeg (fun e => hc ((u8_nat _ 10).1 (by rw [e]; rfl))) ?_
      rw [wrap_succ i (by omega)]
      refine line_ref s R hs t (i + 1) h3 (by omega) ?_
      have : eol (c :: t) = eol t := by
        unfold eol
        rw [List.dropWhile_cons_of_pos (by simpa using hc)]
      rw [this] at hE
      exact hE
theorem rem_ref (s : List UInt8) (i : Nat) (hs : s.length < 100000000) : ∀ (t : List UInt8) (j : Nat), s.drop j = t → j ≤ s.length →
    (aft t = none → Ev (fun k => postilionref44_skip.l2 k (B s) (i : Int) (j : Int)) ((i : Int), false)) ∧
    (∀ u R, aft t = some u → Ev (fun k => postilionref44_skip.l0 k (B s) ((s.length - u.length : Nat) : Int)) R → Ev (fun k => postilionref44_skip.l2 k (B s) (i : Int) (j : Int)) R)
  | [], j, h, hj => by
    have hl : s.length ≤ j := List.drop_eq_nil_iff.1 h
    refine ⟨fun _ => ?_, fun u R hu => by cases hu⟩
    refine evStep (fun k => by rw [postilionref44_skip.l2]) ?_
    exact evNeg (by rw [size_B]; omega) (evPos (by rw [size_B]; omega) (Ev.now _))
  | c :: t, j, h, hj => by
    obtain ⟨h1, h2, h3, h4, h5⟩ := drop_cons h
    have ih := rem_ref s i hs t (j + 1) h3 (by omega)
    have ha := at_ref s [42, 47] j hj hs (by simp)
    rw [h] at ha
    unfold aft
    by_cases hp : [42, 47].isPrefixOf (c :: t) = true
    · rw [if_pos hp]
      rw [hp] at ha
      refine ⟨fun e => (by cases e), fun u R hu hE => ?_⟩
      cases hu
      refine evStep (fun k => by rw [postilionref44_skip.l2]) ?_
      refine evPos (by rw [size_B]; omega) (evBindSome ha (evPos rfl (evNeg (by rw [size_B]; omega) ?_)))
      have ht : 1 ≤ t.length := by
        cases t with
        | nil => simp [List.isPrefixOf] at hp
        | cons b t => simp
      rw [wrap_2 j (by omega), show ((j + 2 : Nat) : Int) = ((s.length - (t.drop 1).length : Nat) : Int) from by rw [List.length_drop]; omega]
      exact hE
    · rw [if_neg hp]
      rw [Bool.eq_false_iff.2 hp] at ha
      refine ⟨fun e => ?_, fun u R hu hE => ?_⟩
      · refine evStep (fun k => by rw [postilionref44_skip.l2]) ?_
        refine evPos (by rw [size_B]; omega) (evBindSome ha (evNeg (by simp) ?_))
        rw [wrap_succ j (by omega)]
        exact ih.1 e
      · refine evStep (fun k => by rw [postilionref44_skip.l2]) ?_
        refine evPos (by rw [size_B]; omega) (evBindSome ha (evNeg (by simp) ?_))
        rw [wrap_succ j (by omega)]
        exact ih.2 u R hu hE
theorem skip_ref (s : List UInt8) (hs : s.length < 100000000) {l r : List UInt8} {b : Bool} (h : Sk l r b) : ∀ i : Nat, s.drop i = l → i ≤ s.length →
    Ev (fun k => postilionref44_skip.l0 k (B s) (i : Int)) (((s.length - r.length : Nat) : Int), b) := by
  have at' : ∀ (i : Nat), i < s.length → ∀ {q : Int → Prop}, q ((s.length - (s.drop i).length : Nat) : Int) → q (i : Int) := by
    intro i hi q hq
    rw [List.length_drop, show s.length - (s.length - i) = i from by omega] at hq
    exact hq
  induction h with
  | nil =>
    intro i h hi
    have hl : s.length ≤ i := List.drop_eq_nil_iff.1 h
    refine evStep (fun k => by rw [postilionref44_skip.l0]) ?_
    refine evNeg (by rw [size_B]; omega) (evSome ?_)
    simp
    omega
  | @blank c t r b hc _ ih =>
    intro i h hi
    obtain ⟨h1, h2, h3, h4, h5⟩ := drop_cons h
    refine evStep (fun k => by rw [postilionref44_skip.l0]) ?_
    refine evPos (by rw [size_B]; omega) (evPos (by omega) ?_)
    rw [h2]
    refine Ev.bind (in_ends blanks c (by decide)) (evPos (decide_eq_true hc) ?_)
    rw [wrap_succ i (by omega)]
    exact ih (i + 1) h3 (by omega)
  | @line t r b _ ih =>
    intro i h hi
    obtain ⟨h1, h2, h3, h4, h5⟩ := drop_cons h
    have ha := at_ref s [47, 47] i hi hs (by simp)
    rw [h] at ha
    have hl := suf_len (eol_suf t)
    refine evStep (fun k => by rw [postilionref44_skip.l0]) ?_
    refine evPos (by rw [size_B]; omega) (evPos (by omega) ?_)
    rw [h2]
    refine Ev.bind (in_ends blanks 47 (by decide)) (evNeg (by decide) (evBindSome ha (evPos (by simp [List.isPrefixOf]) ?_)))
    refine line_ref s _ hs _ i h hi ?_
    have he : eol (47 :: 47 :: t) = eol t := by simp [eol]
    rw [he]
    refine ih _ ?_ (by omega)
    obtain ⟨p, hp⟩ := (((eol_suf t).trans (List.suffix_cons 47 _)).trans (List.suffix_cons 47 _)).trans (h ▸ List.drop_suffix i s)
    have hpl := congrArg List.length hp
    rw [List.length_append] at hpl
    rw [show s.length - (eol t).length = p.length from by omega, ← hp, List.drop_left]
  | @rem t u r b ha' _ ih =>
    intro i h hi
    obtain ⟨h1, h2, h3, h4, h5⟩ := drop_cons h
    obtain ⟨g1, g2, g3, g4, g5⟩ := drop_cons h3
    have ha := at_ref s [47, 47] i hi hs (by simp)
    have ha2 := at_ref s [47, 42] i hi hs (by simp)
    rw [h] at ha ha2
    refine evStep (fun k => by rw [postilionref44_skip.l0]) ?_
    refine evPos (by rw [size_B]; omega) (evPos (by omega) ?_)
    rw [h2]
    refine Ev.bind (in_ends blanks 47 (by decide)) (evNeg (by decide) (evBindSome ha (evNeg (by simp [List.isPrefixOf]) (evBindSome ha2 (evPos (by simp [List.isPrefixOf]) ?_)))))
    rw [wrap_2 i (by omega)]
    refine (rem_ref s i hs t (i + 2) g3 (by omega)).2 u _ ha' ?_
    refine ih _ ?_ (by omega)
    obtain ⟨p, hp⟩ := (((aft_suf ha').trans (List.suffix_cons 42 _)).trans (List.suffix_cons 47 _)).trans (h ▸ List.drop_suffix i s)
    have hpl := congrArg List.length hp
    rw [List.length_append] at hpl
    rw [show s.length - u.length = p.length from by omega, ← hp, List.drop_left]
  | @bad t ha' =>
    intro i h hi
    obtain ⟨h1, h2, h3, h4, h5⟩ := drop_cons h
    obtain ⟨g1, g2, g3, g4, g5⟩ := drop_cons h3
    have ha := at_ref s [47, 47] i hi hs (by simp)
    have ha2 := at_ref s [47, 42] i hi hs (by simp)
    rw [h] at ha ha2
    refine evStep (fun k => by rw [postilionref44_skip.l0]) ?_
    refine evPos (by rw [size_B]; omega) (evPos (by omega) ?_)
    rw [h2]
    refine Ev.bind (in_ends blanks 47 (by decide)) (evNeg (by decide) (evBindSome ha (evNeg (by simp [List.isPrefixOf]) (evBindSome ha2 (evPos (by simp [List.isPrefixOf]) ?_)))))
    rw [wrap_2 i (by omega), show s.length - (47 :: 42 :: t).length = i from by simp only [List.length_cons] at h5 ⊢; omega]
    exact (rem_ref s i hs t (i + 2) g3 (by omega)).1 ha'
  | @stop c t hb h6 h7 =>
    intro i h hi
    obtain ⟨h1, h2, h3, h4, h5⟩ := drop_cons h
    have ha := at_ref s [47, 47] i hi hs (by simp)
    have ha2 := at_ref s [47, 42] i hi hs (by simp)
    rw [h] at ha ha2
    rw [h6] at ha
    rw [h7] at ha2
    refine evStep (fun k => by rw [postilionref44_skip.l0]) ?_
    refine evPos (by rw [size_B]; omega) (evPos (by omega) ?_)
    rw [h2]
    refine Ev.bind (in_ends blanks c (by decide)) (evNeg (by simpa using hb) (evBindSome ha (evNeg (by simp) (evBindSome ha2 (evNeg (by simp) (evSome ?_))))))
    rw [show s.length - (c :: t).length = i from by simp only [List.length_cons]; omega]

/-! ### two digits -/
theorem digit_all : (List.range 256).all (fun n => postilionref01_digit.f 20 (n : Int) == some (hvN n)) = true := by kernel_rfl
theorem digit_ref (c : UInt8) : Ev (fun k => postilionref01_digit.f k (c.toNat : Int)) (hvN c.toNat) := by
  have h := List.all_eq_true.1 digit_all c.toNat (List.mem_range.2 c.toNat_lt)
  exact Ev.of (k := 20) (fun k => postilionref01_digit.mono _ k) (eq_of_beq h)
theorem fromHex_ref (a b : UInt8) : Ev (fun k => postilionref01_FromHex.f k (B [a, b])) (hx2 a b) := by
  refine evPos (by rw [size_B]; simp) ?_
  refine evStep (fun k => by rw [postilionref01_FromHex.l0]) ?_
  have w1 : wrap64 ((0 : Int) + 1) = 1 := by unfold wrap64; omega
  have w2 : wrap64 ((0 : Int) + 2) = 2 := by unfold wrap64; omega
  rw [w1, w2, bt0, bt1]
  refine evPos (by rw [size_B]; simp) (evPos (by omega) (evPos (by rw [size_B]; simp) (Ev.bind (digit_ref a) (evPos (by omega) (Ev.bind (digit_ref b) ?_)))))
  cases ha : hexV a with
  | none =>
    rw [show hx2 a b = (B [], false) from by unfold hx2; rw [ha]]
    exact evPos (by rw [hv_none ha]; decide) (Ev.now _)
  | some x =>
    have hx := hv_some ha
    refine evNeg (by omega) ?_
    cases hb : hexV b with
    | none =>
      rw [show hx2 a b = (B [], false) from by unfold hx2; rw [ha, hb]]
      exact evPos (by rw [hv_none hb]; decide) (Ev.now _)
    | some y =>
      have hy := hv_some hb
      rw [show hx2 a b = (B [UInt8.ofNat (16 * x + y)], true) from by unfold hx2; rw [ha, hb]]
      refine evNeg (by omega) (evPos (by simp) ?_)
      have hv : (wrap64 (wrap64 (16 * hvN a.toNat) + hvN b.toNat)) % 256 = ((16 * x + y : Nat) : Int) := by
        rw [hx.1, hy.1, wrap_le (16 * (x : Int)) (by omega) (by omega), wrap_le _ (by omega) (by omega)]
        omega
      rw [hv]
      refine evStep (fun k => by rw [postilionref01_FromHex.l0]) ?_
      have w3 : wrap64 ((2 : Int) + 1) = 3 := by unfold wrap64; omega
      rw [w3]
      refine evNeg (by rw [size_B]; simp) (evSome ?_)
      rw [List.nil_append]
      congr 1

/-! ### a text -/
abbrev R3 := ByteArray × Int × Bool
theorem ext_one (s : List UInt8) (c : UInt8) (t : List UInt8) (i : Nat) (h : s.drop i = c :: t) : (B s).extract i (i + 1) = B [c] :=
  L_inj (by rw [L_ext, L_B, h, show i + 1 - i = 1 from by omega]; rfl)
theorem step_none (s : List UInt8) (hs : s.length < 100000000) (c : UInt8) (t acc : List UInt8) (i : Nat) (h : s.drop i = c :: t) (hc : c ≠ 34) (ho : oneL (c :: t) = none) :
    Ev (fun k => postilionref44_text.l0 k (B s) (i : Int) (B acc)) (B [], 0, false) := by
  obtain ⟨h1, h2, h3, h4, h5⟩ := drop_cons h
  have hsz : (i : Int) < ((B s).size : Int) := by rw [size_B]; omega
  refine evStep (fun k => by rw [postilionref44_text.l0]) ?_
  refine evPos hsz (evPos (by omega) ?_)
  rw [h2, show ((c.toNat : Int) != 34) = true from bne_iff_ne.2 (fun e => hc ((u8_nat _ 34).1 (by rw [e]; rfl)))]
  refine evStep (fun k => by rw [postilionref44_text.j1]) ?_
  refine evPos rfl (evPos (by omega) (evPos hsz ?_))
  rw [h2]
  have fin : Ev (fun k => postilionref44_text.j2 k (B s) (i : Int) (B acc) true) (B [], 0, false) := by
    refine evStep (fun k => by rw [postilionref44_text.j2]) ?_
    exact evPos rfl (Ev.now _)
  by_cases hlo : (c.toNat : Int) < 32
  · exact evPos hlo fin
  refine evNeg hlo ?_
  by_cases hhi : (c.toNat : Int) > 126
  · rw [decide_eq_true hhi]
    exact fin
  rw [decide_eq_false hhi]
  refine evStep (fun k => by rw [postilionref44_text.j2]) ?_
  refine evNeg (by simp) (evPos (by omega) (evPos hsz ?_))
  rw [h2]
  rw [oneL_cons, if_neg (fun h => h ⟨by omega, by omega⟩)] at ho
  by_cases h92 : c = 92
  · rw [if_neg (fun h => h h92)] at ho
    refine evPos (by rw [h92]; rfl) ?_
    rw [wrap_succ i (by omega)]
    have a1 := at_ref s [34] (i + 1) (by omega) hs (by simp)
    have a2 := at_ref s [92] (i + 1) (by omega) hs (by simp)
    have a3 := at_ref s [120] (i + 1) (by omega) hs (by simp)
    rw [h3] at a1 a2 a3
    have fin4 : Ev (fun k => postilionref44_text.j4 k (B s) (i : Int) (B acc) true) (B [], 0, false) := by
      refine evStep (fun k => by rw [postilionref44_text.j4]) ?_
      exact evPos rfl (Ev.now _)
    match t, h, ho, h3, h5, a1, a2, a3 with
    | [], h, ho, h3, h5, a1, a2, a3 =>
      refine evBindSome a1 (evNeg (by simp [List.isPrefixOf]) (evBindSome a2 ?_))
      refine evStep (fun k => by rw [postilionref44_text.j3]) ?_
      rw [wrap_succ i (by omega)]
      exact evNeg (by simp [List.isPrefixOf]) (evBindSome a3 (evNeg (by simp [List.isPrefixOf]) fin4))
    | d :: u, h, ho, h3, h5, a1, a2, a3 =>
      rw [oneB_cons] at ho
      by_cases hd : d = 34 ∨ d = 92
      · rw [if_pos hd] at ho
        cases ho
      rw [if_neg hd] at ho
      have n1 : ¬ ([34].isPrefixOf (d :: u) = true) := by simp [List.isPrefixOf]; exact fun e => hd (.inl e.symm)
      have n2 : ¬ ([92].isPrefixOf (d :: u) = true) := by simp [List.isPrefixOf]; exact fun e => hd (.inr e.symm)
      refine evBindSome a1 (evNeg n1 (evBindSome a2 ?_))
      refine evStep (fun k => by rw [postilionref44_text.j3]) ?_
      rw [wrap_succ i (by omega)]
      refine evNeg n2 (evBindSome a3 ?_)
      by_cases hx : d = 120
      · rw [if_pos hx] at ho
        refine evPos (by simp [List.isPrefixOf, hx]) ?_
        rw [wrap_4 i (by omega)]
        by_cases hl : s.length < i + 4
        · rw [show decide (((i + 4 : Nat) : Int) > ((B s).size : Int)) = true from decide_eq_true (by rw [size_B]; omega)]
          exact fin4
        · rw [show decide (((i + 4 : Nat) : Int) > ((B s).size : Int)) = false from decide_eq_false (by rw [size_B]; omega)]
          match u, ho, h3, h5 with
          | [], ho, h3, h5 => simp only [List.length_cons, List.length_nil] at h5; omega
          | [a], ho, h3, h5 => simp only [List.length_cons, List.length_nil] at h5; omega
          | a :: b :: v, ho, h3, h5 =>
            have hx2e : (B s).extract (i + 2) (i + 4) = B [a, b] := L_inj (by
              have e2 : s.drop (i + 2) = a :: b :: v := (drop_cons h3).2.2.1
              rw [L_ext, L_B, e2, show i + 4 - (i + 2) = 2 from by omega]; rfl)
            refine evStep (fun k => by rw [postilionref44_text.j4]) ?_
            rw [wrap_2 i (by omega), wrap_4 i (by omega)]
            refine evNeg (by simp) (evPos (by omega) (evPos (by omega) (evPos (by rw [size_B]; omega) ?_)))
            rw [Int.toNat_natCast, Int.toNat_natCast, hx2e]
            refine Ev.bind (fromHex_ref a b) ?_
            rw [oneX_cons] at ho
            unfold hex2 at ho
            unfold hx2
            cases ha : hexV a with
            | none => exact evNeg (by simp) (Ev.now _)
            | some x =>
              cases hb : hexV b with
              | none => exact evNeg (by simp) (Ev.now _)
              | some y =>
                rw [ha, hb, Option.bind_some, Option.bind_some] at ho
                by_cases hz : 16 * x + y = 0
                · refine evPos rfl (evPos ?_ (Ev.now _))
                  rw [toL, L_B, hz]
                  rfl
                · rw [if_neg hz] at ho
                  cases ho
      · exact evNeg (by simp [List.isPrefixOf]; exact fun e => hx e.symm) fin4
  · rw [if_pos h92] at ho
    cases ho
theorem step_some (s : List UInt8) (hs : s.length < 100000000) (c : UInt8) (t acc : List UInt8) (i : Nat) (h : s.drop i = c :: t) (hc : c ≠ 34) (ha : acc.length < 100000000) (b : UInt8) (n : Nat) (ho : oneL (c :: t) = some (b, n)) (R : R3)
    (hE : Ev (fun k => postilionref44_text.l0 k (B s) ((i + n : Nat) : Int) (B (acc ++ [b]))) R) : Ev (fun k => postilionref44_text.l0 k (B s) (i : Int) (B acc)) R := by
  obtain ⟨h1, h2, h3, h4, h5⟩ := drop_cons h
  have hsz : (i : Int) < ((B s).size : Int) := by rw [size_B]; omega
  refine evStep (fun k => by rw [postilionref44_text.l0]) ?_
  refine evPos hsz (evPos (by omega) ?_)
  rw [h2, show ((c.toNat : Int) != 34) = true from bne_iff_ne.2 (fun e => hc ((u8_nat _ 34).1 (by rw [e]; rfl)))]
  refine evStep (fun k => by rw [postilionref44_text.j1]) ?_
  refine evPos rfl (evPos (by omega) (evPos hsz ?_))
  rw [h2]
  rw [oneL_cons] at ho
  by_cases hp : 32 ≤ c.toNat ∧ c.toNat ≤ 126
  · rw [if_neg (fun h => h hp)] at ho
    refine evNeg (by omega) ?_
    rw [show decide ((c.toNat : Int) > 126) = false from decide_eq_false (by omega)]
    refine evStep (fun k => by rw [postilionref44_text.j2]) ?_
    refine evNeg (by simp) (evPos (by omega) (evPos hsz ?_))
    rw [h2]
    by_cases h92 : c = 92
    · rw [if_neg (fun h => h h92)] at ho
      refine evPos (by rw [h92]; rfl) ?_
      rw [wrap_succ i (by omega)]
      have a1 := at_ref s [34] (i + 1) (by omega) hs (by simp)
      have a2 := at_ref s [92] (i + 1) (by omega) hs (by simp)
      have a3 := at_ref s [120] (i + 1) (by omega) hs (by simp)
      rw [h3] at a1 a2 a3
      match t, h, ho, h3, h5, a1, a2, a3 with
      | [], h, ho, h3, h5, a1, a2, a3 => cases ho
      | d :: u, h, ho, h3, h5, a1, a2, a3 =>
        rw [oneB_cons] at ho
        have two : (d = 34 ∨ d = 92) → Ev (fun k => postilionref44_text.j3 k (B s) (i : Int) (B acc) true) R := by
          intro hd
          rw [if_pos hd] at ho
          simp only [Option.some.injEq, Prod.mk.injEq] at ho
          obtain ⟨rfl, rfl⟩ := ho
          refine evStep (fun k => by rw [postilionref44_text.j3]) ?_
          rw [wrap_succ i (by omega), wrap_2 i (by omega)]
          have he : (B s).extract (i + 1) (i + 2) = B [d] := ext_one s d u (i + 1) h3
          simp only [Int.toNat_natCast, he]
          refine evPos trivial (evPos (by omega) (evPos (by omega) (evPos (by rw [size_B]; simp only [List.length_cons] at h5; omega) (evPos (by rw [size_B, size_B]; simp only [List.length_singleton]; omega) ?_))))
          rw [B_app]
          exact hE
        by_cases hd1 : d = 34
        · exact evBindSome a1 (evPos (by simp [List.isPrefixOf, hd1]) (two (.inl hd1)))
        refine evBindSome a1 (evNeg (by simp [List.isPrefixOf]; exact fun e => hd1 e.symm) (evBindSome a2 ?_))
        by_cases hd2 : d = 92
        · rw [show [92].isPrefixOf (d :: u) = true from by simp [List.isPrefixOf, hd2]]
          exact two (.inr hd2)
        rw [show [92].isPrefixOf (d :: u) = false from by simp [List.isPrefixOf]; exact fun e => hd2 e.symm]
        rw [if_neg (fun h => h.elim hd1 hd2)] at ho
        refine evStep (fun k => by rw [postilionref44_text.j3]) ?_
        rw [wrap_succ i (by omega)]
        refine evNeg (by simp) (evBindSome a3 ?_)
        by_cases hx : d = 120
        · rw [if_pos hx] at ho
          refine evPos (by simp [List.isPrefixOf, hx]) ?_
          rw [wrap_4 i (by omega)]
          match u, ho, h3, h5 with
          | [], ho, h3, h5 => cases ho
          | [a], ho, h3, h5 => cases ho
          | a :: b' :: v, ho, h3, h5 =>
            simp only [List.length_cons] at h5
            have hx2e : (B s).extract (i + 2) (i + 4) = B [a, b'] := L_inj (by
              have e2 : s.drop (i + 2) = a :: b' :: v := (drop_cons h3).2.2.1
              rw [L_ext, L_B, e2, show i + 4 - (i + 2) = 2 from by omega]; rfl)
            rw [show decide (((i + 4 : Nat) : Int) > ((B s).size : Int)) = false from decide_eq_false (by rw [size_B]; omega)]
            refine evStep (fun k => by rw [postilionref44_text.j4]) ?_
            rw [wrap_2 i (by omega), wrap_4 i (by omega)]
            refine evNeg (by simp) (evPos (by omega) (evPos (by omega) (evPos (by rw [size_B]; omega) ?_)))
            rw [Int.toNat_natCast, Int.toNat_natCast, hx2e]
            refine Ev.bind (fromHex_ref a b') ?_
            rw [oneX_cons, Option.map_eq_some_iff] at ho
            obtain ⟨z, hz, he⟩ := ho
            cases he
            unfold hex2 at hz
            obtain ⟨x, hx1, hz⟩ := Option.bind_eq_some_iff.1 hz
            obtain ⟨y, hy1, hz⟩ := Option.bind_eq_some_iff.1 hz
            have hxx := hv_some hx1
            have hyy := hv_some hy1
            by_cases hzz : 16 * x + y = 0
            · rw [if_pos hzz] at hz
              cases hz
            rw [if_neg hzz] at hz
            have hb : UInt8.ofNat (16 * x + y) = b := Option.some.inj hz
            unfold hx2
            rw [hx1, hy1]
            refine evPos rfl (evNeg ?_ (evPos ?_ ?_))
            · rw [toL, L_B]
              intro e
              have := congrArg UInt8.toNat (List.cons.inj e).1
              have hlt : 16 * x + y < 256 := by omega
              rw [show (UInt8.ofNat (16 * x + y)).toNat = (16 * x + y) % 256 from rfl, Nat.mod_eq_of_lt hlt] at this
              exact hzz this
            · rw [size_B, size_B]; simp only [List.length_singleton]; omega
            · rw [B_app]
              show Ev (fun k => postilionref44_text.l0 k (B s) ((i + 4 : Nat) : Int) (B (acc ++ [UInt8.ofNat (16 * x + y)]))) R
              rw [hb]
              exact hE
        · rw [if_neg hx] at ho
          cases ho
    · rw [if_pos h92] at ho
      cases ho
      refine evNeg (fun e => h92 ((u8_nat _ 92).1 (by rw [e]; rfl))) ?_
      have he : (B s).extract i (i + 1) = B [c] := ext_one s c t i h
      rw [wrap_succ i (by omega)]
      simp only [Int.toNat_natCast, he]
      refine evPos (by omega) (evPos (by rw [size_B]; omega) (evPos (by rw [size_B, size_B]; simp only [List.length_singleton]; omega) ?_))
      rw [B_app]
      exact hE
  · rw [if_pos hp] at ho
    cases ho
def txR (n : Nat) (q : Option (List UInt8 × List UInt8)) : R3 := match q with
  | some (o, r) => (B o, ((n - r.length : Nat) : Int), true)
  | none => (B [], 0, false)
theorem text_ref (s : List UInt8) (hs : s.length < 100000000) {l acc : List UInt8} {q : Option (List UInt8 × List UInt8)} (h : Tx l acc q) : ∀ i : Nat, s.drop i = l → i ≤ s.length → acc.length + l.length < 100000000 →
    Ev (fun k => postilionref44_text.l0 k (B s) (i : Int) (B acc)) (txR s.length q) := by
  induction h with
  | @fin t acc =>
    intro i h hi ha
    obtain ⟨h1, h2, h3, h4, h5⟩ := drop_cons h
    refine evStep (fun k => by rw [postilionref44_text.l0]) ?_
    refine evPos (by rw [size_B]; omega) (evPos (by omega) ?_)
    rw [h2]
    refine evStep (fun k => by rw [postilionref44_text.j1]) ?_
    refine evNeg (by simp) (evNeg (by rw [size_B]; omega) (evSome ?_))
    rw [wrap_succ i (by omega), show i + 1 = s.length - t.length from by omega]
    rfl
  | @out acc =>
    intro i h hi ha
    have hl : s.length ≤ i := List.drop_eq_nil_iff.1 h
    refine evStep (fun k => by rw [postilionref44_text.l0]) ?_
    refine evNeg (by rw [size_B]; omega) ?_
    refine evStep (fun k => by rw [postilionref44_text.j1]) ?_
    exact evNeg (by simp) (evPos (by rw [size_B]; omega) (Ev.now _))
  | @bad c t acc hc ho =>
    intro i h hi ha
    exact step_none s hs c t acc i h hc ho
  | @go c t acc b n q hc ho hr ih =>
    intro i h hi ha
    obtain ⟨h1, h2, h3, h4, h5⟩ := drop_cons h
    have hn := oneL_pos ho
    rw [List.length_cons] at hn ha
    refine step_some s hs c t acc i h hc (by omega) b n ho _ ?_
    refine ih (i + n) ?_ (by omega) ?_
    · rw [← h, List.drop_drop]
    · rw [List.length_append, List.length_singleton, List.length_drop, List.length_cons]
      omega
end Go.Proofs.Ytbgndegdegfebaa.PureP
