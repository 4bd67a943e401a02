/- Plain law LexPuts of layer 44 (lex). No program in sight. -/
import Derived.Test.YtbgndegdegfebaaPureS
namespace Go.Proofs.Ytbgndegdegfebaa.PureT
open Go.RowKit Go.Proofs.YtbgndegdegfebaaW.PrintWords Go.Proofs.YtbgndegdegfebaaW.PrintLast Go.Proofs.YtbgndegdegfebaaW.PrintMore Go.Proofs.Ytbgndegdegfebaa.Q Go.Proofs.Ytbgndegdegfebaa.Pure0 Go.Proofs.Ytbgndegdegfebaa.PureM Go.Proofs.Ytbgndegdegfebaa.PureN Go.Proofs.Ytbgndegdegfebaa.PureL Go.Proofs.Ytbgndegdegfebaa.PureO Go.Proofs.Ytbgndegdegfebaa.PureS
set_option linter.unusedVariables false
set_option linter.unusedSimpArgs false

theorem hex_allR : (List.range 256).all (fun n => (postilionref01_Hex.f 4 (B [n.toUInt8])).map L == some [hexD (n / 16), hexD (n % 16)]) = true := by kernel_rfl
theorem hex_ref (x : UInt8) : Ev (fun k => postilionref01_Hex.f k (B [x])) (B [hexD (x.toNat / 16), hexD (x.toNat % 16)]) := by
  have h := List.all_eq_true.1 hex_allR x.toNat (List.mem_range.2 x.toNat_lt)
  refine Ev.of (k := 4) (fun k => postilionref01_Hex.mono _ k) ?_
  have h2 := eq_of_beq h
  have h3 : x.toNat.toUInt8 = x := by simp
  rw [h3] at h2
  obtain ⟨y, hy, he⟩ := Option.map_eq_some_iff.1 h2
  rw [hy]
  congr 1
  exact L_inj he
theorem quoted_ref_loop (t : List UInt8) (h : t.length < 100000) (d : Nat) : ∀ (i : Nat) (acc : List UInt8), i + d = t.length → acc.length + 4 * d < 1000000 →
    Ev (fun k => postilionref44_Quoted.l0 k (B t) (B acc) (i : Int)) (B (acc ++ qs (t.drop i) ++ [34])) := by
  induction d with
  | zero =>
    intro i acc hi ha
    refine evStep (fun k => by rw [postilionref44_Quoted.l0]) ?_
    refine evNeg (by rw [size_B]; omega) (evPos (by rw [size_B]; omega) (evSome ?_))
    rw [List.drop_eq_nil_of_le (by omega), show (⟨#[34]⟩ : ByteArray) = B [34] from rfl, B_app]
    simp [qs]
  | succ d ih =>
    intro i acc hi ha
    have hi2 : i < t.length := by omega
    have hd : t.drop i = t[i] :: t.drop (i + 1) := List.drop_eq_getElem_cons hi2
    have hb : bt (B t) (i : Int) = ((t[i]).toNat : Int) := bt_get (B t) i hi2
    have he : (B t).extract i (i + 1) = B [t[i]] := ext_one t t[i] _ i hd
    have go : ∀ m : List UInt8, q1 t[i] = m → m.length ≤ 4 → Ev (fun k => postilionref44_Quoted.l0 k (B t) (B (acc ++ m)) (wrap64 ((i : Int) + 1))) (B (acc ++ qs (t.drop i) ++ [34])) := by
      intro m hm hml
      rw [wrap_succ i (by omega)]
      have := ih (i + 1) (acc ++ m) (by omega) (by simp; omega)
      rw [show acc ++ qs (t.drop i) = acc ++ m ++ qs (t.drop (i + 1)) from by rw [hd, qs, List.flatMap_cons, hm, List.append_assoc]; rfl]
      exact this
    refine evStep (fun k => by rw [postilionref44_Quoted.l0]) ?_
    refine evPos (by rw [size_B]; omega) (evPos (by omega) ?_)
    rw [hb]
    have two : (t[i] = 34 ∨ t[i] = 92) → Ev (fun k => postilionref44_Quoted.j1 k (B t) (B acc) (i : Int) true) (B (acc ++ qs (t.drop i) ++ [34])) := by
      intro h2
      have g := go [92, t[i]] (by unfold q1; rw [if_pos h2]) (by simp)
      rw [wrap_succ i (by omega)] at g
      refine evStep (fun k => by rw [postilionref44_Quoted.j1]) ?_
      rw [wrap_succ i (by omega), Int.toNat_natCast, Int.toNat_natCast, he, show (⟨#[92]⟩ : ByteArray) = B [92] from rfl, B_app, B_app]
      refine evPos rfl (evPos (by rw [size_B]; omega) (evPos (by omega) (evPos (by omega) (evPos (by rw [size_B]; omega) (evPos (by rw [size_B, size_B, List.length_append, List.length_singleton, List.length_singleton]; omega) ?_)))))
      rw [List.append_assoc]
      exact g
    by_cases h34 : t[i] = 34
    · refine evPos (by rw [h34]; rfl) ?_
      exact two (.inl h34)
    · refine evNeg (fun e => h34 ((u8_nat _ 34).1 (by rw [e]; rfl))) ?_
      by_cases h92 : t[i] = 92
      · rw [show (((t[i]).toNat : Int) == 92) = true from by rw [h92]; rfl]
        exact two (.inr h92)
      · rw [show (((t[i]).toNat : Int) == 92) = false from beq_eq_false_iff_ne.2 (fun e => h92 ((u8_nat _ 92).1 (by rw [e]; rfl)))]
        refine evStep (fun k => by rw [postilionref44_Quoted.j1]) ?_
        refine evNeg (by simp) (evPos (by omega) (evPos (by rw [size_B]; omega) ?_))
        rw [hb, wrap_succ i (by omega), Int.toNat_natCast, Int.toNat_natCast, he]
        have hexs : ¬ (32 ≤ (t[i]).toNat ∧ (t[i]).toNat ≤ 126) → ∃ u, Ev (fun k => postilionref01_Hex.f k (B [t[i]])) u ∧ Ev (fun k => if ((B acc) ++ (⟨#[92, 120]⟩ : ByteArray)).size + u.size ≤ 9223372036854775807 then postilionref44_Quoted.l0 k (B t) (((B acc) ++ (⟨#[92, 120]⟩ : ByteArray)) ++ u) ((i + 1 : Nat) : Int) else none) (B (acc ++ qs (t.drop i) ++ [34])) := by
          intro hp
          refine ⟨_, hex_ref t[i], evPos ?_ ?_⟩
          · rw [show (⟨#[92, 120]⟩ : ByteArray) = B [92, 120] from rfl, B_app, size_B, size_B, List.length_append]; simp; omega
          · have g := go _ (by unfold q1; rw [if_neg (fun h => h.elim h34 h92), if_neg hp]) (by simp)
            rw [wrap_succ i (by omega)] at g
            rw [show (⟨#[92, 120]⟩ : ByteArray) = B [92, 120] from rfl, B_app, B_app, List.append_assoc]
            exact g
        by_cases hlo : (((t[i]).toNat : Int)) < 32
        · obtain ⟨u, hu, hE⟩ := hexs (fun h => by omega)
          exact evPos hlo (evPos (by rw [size_B]; omega) (evPos (by omega) (evPos (by rw [size_B]; omega) (Ev.bind hu hE))))
        refine evNeg hlo ?_
        by_cases hhi : (((t[i]).toNat : Int)) > 126
        · obtain ⟨u, hu, hE⟩ := hexs (fun h => by omega)
          exact evPos hhi (evPos (by rw [size_B]; omega) (evPos (by omega) (evPos (by rw [size_B]; omega) (Ev.bind hu hE))))
        refine evNeg hhi (evPos (by omega) (evPos (by rw [size_B]; omega) (evPos (by rw [size_B, size_B, List.length_singleton]; omega) ?_)))
        have g := go [t[i]] (by unfold q1; rw [if_neg (fun h => h.elim h34 h92), if_pos ⟨by omega, by omega⟩]) (by simp)
        rw [wrap_succ i (by omega)] at g
        rw [B_app]
        exact g
theorem quoted_ref (t : List UInt8) (h : t.length < 100000) : Ev (fun k => postilionref44_Quoted.f k (B t)) (B (34 :: qs t ++ [34])) := by
  have := quoted_ref_loop t h t.length 0 [34] (by omega) (by simp; omega)
  rw [List.drop_zero] at this
  exact this
theorem may_ref (n m : Int) (t : List UInt8) (h : t.length < 100000) : Ev (fun k => postilionref44_May.f k n (B t) m) (pt n t).2 := by
  unfold pt
  by_cases h1 : n = 1
  · rw [if_pos h1]
    exact evPos h1 (Ev.bind (word_ref t (by omega)) (Ev.now _))
  rw [if_neg h1]
  refine evNeg h1 ?_
  by_cases h2 : n = 2
  · rw [if_pos h2]
    exact evPos h2 (Ev.bind (in_ends t 0 (by omega)) (Ev.now _))
  rw [if_neg h2]
  refine evNeg h2 ?_
  by_cases h3 : n = 3
  · rw [show (if n = 3 then (t, signB t) else (([] : List UInt8), false)) = (t, signB t) from if_pos h3]
    refine evPos h3 ?_
    match t with
    | [] => exact evNeg (by rw [size_B]; decide) (Ev.now _)
    | [c] =>
      refine evPos (by rw [size_B]; rfl) (evPos (by rw [size_B]; simp) ?_)
      rw [bt0]
      exact Ev.bind (in_ends signs c (by decide)) (Ev.now _)
    | a :: b :: l => exact evNeg (by rw [size_B]; simp only [List.length_cons]; omega) (Ev.now _)
  · rw [show (if n = 3 then (t, signB t) else (([] : List UInt8), false)) = (([] : List UInt8), false) from if_neg h3]
    exact evNeg h3 (Ev.now _)

/-! ### one lexeme more -/
theorem src_snoc (m : List Tok) (x : Tok) : src (m ++ [x]) = if m = [] then pc x else src m ++ 32 :: pc x := by
  cases m with
  | nil => simp [src, Lib.join_one]
  | cons y m =>
    rw [if_neg (by simp), src, src, List.cons_append, List.map_cons, List.map_cons, Lib.join_cons, Lib.join_cons]
    simp [Lib.joinTail]
theorem src_len (M : Nat) (m : List Tok) (h : ∀ x ∈ m, x.2.1.length ≤ M) : (src m).length ≤ m.length * (4 * M + 2 + 1) := by
  have := join_len (4 * M + 2) (m.map pc) (by
    intro x hx
    obtain ⟨y, hy, rfl⟩ := List.mem_map.1 hx
    have h1 := pt_len y.1 y.2.1
    have h2 := h y hy
    show ((pt y.1 y.2.1).1).length ≤ _
    omega)
  rw [List.length_map] at this
  exact this
theorem put_ref_loop (l : List S33) (hl : l.length ≤ 60) (hs : ∀ j (h : j < l.length), (l[j].f1).size ≤ 100) (d : Nat) : ∀ i : Nat, i + d = l.length →
    Ev (fun k => postilionref44_Put.l0 k l (B (src ((l.take i).map tk))) (i : Int)) (putsR l (l.drop i)) := by
  induction d with
  | zero =>
    intro i hi
    refine evStep (fun k => by rw [postilionref44_Put.l0]) ?_
    refine evNeg (by omega) (evSome ?_)
    rw [List.drop_eq_nil_of_le (by omega), List.take_of_length_le (by omega)]
    unfold putsR
    rw [map_pc]
    rfl
  | succ d ih =>
    intro i hi
    have hi2 : i < l.length := by omega
    have hd : l.drop i = l[i] :: l.drop (i + 1) := List.drop_eq_getElem_cons hi2
    have hsz : (L l[i].f1).length ≤ 100 := by rw [← size_L]; exact hs i hi2
    have hp := may_ref l[i].f0 l[i].f2 (L l[i].f1) (by omega)
    rw [B_L] at hp
    have hq := quoted_ref (L l[i].f1) (by omega)
    rw [B_L] at hq
    have hlen : (src ((l.take i).map tk)).length ≤ 60 * 403 := by
      have h1 := src_len 100 ((l.take i).map tk) (by
        intro x hx
        obtain ⟨y, hy, rfl⟩ := List.mem_map.1 hx
        obtain ⟨j, hj, rfl⟩ := List.getElem_of_mem (List.mem_of_mem_take hy)
        show (L _).length ≤ 100
        rw [← size_L]
        exact hs j hj)
      have h2 : ((l.take i).map tk).length ≤ 60 := by rw [List.length_map, List.length_take]; omega
      have h3 : ((l.take i).map tk).length * (4 * 100 + 2 + 1) ≤ 60 * 403 := Nat.mul_le_mul h2 (by omega)
      exact Nat.le_trans h1 h3
    have hql := qs_len (L l[i].f1)
    refine evStep (fun k => by rw [postilionref44_Put.l0]) ?_
    refine evPos (by omega) (evPos (by omega) ?_)
    rw [rd33_nat l i hi2]
    refine Ev.bind hp ?_
    have e : (l.take (i + 1)).map tk = (l.take i).map tk ++ [tk l[i]] := by
      rw [List.take_succ_eq_append_getElem hi2, List.map_append]
      rfl
    by_cases ho : ok1 l[i] = true
    · have h2 : putsR l (l.drop i) = putsR l (l.drop (i + 1)) := by
        unfold putsR
        rw [hd, List.all_cons, ho, Bool.true_and]
      rw [h2]
      have g := ih (i + 1) (by omega)
      rw [e, src_snoc, ← wrap_succ i (by omega)] at g
      refine evPos ho ?_
      have hpc2 : l[i].f0 = 2 → pc (tk l[i]) = 34 :: qs (L l[i].f1) ++ [34] := by
        intro h
        show (pt l[i].f0 (L l[i].f1)).1 = _
        rw [h]
        rfl
      have hpc1 : ¬ l[i].f0 = 2 → pc (tk l[i]) = L l[i].f1 := by
        intro h
        unfold ok1 pt at ho
        show (pt l[i].f0 (L l[i].f1)).1 = _
        unfold pt
        by_cases h1 : l[i].f0 = 1
        · rw [if_pos h1]
        rw [if_neg h1, if_neg h] at ho ⊢
        by_cases h3 : l[i].f0 = 3
        · rw [if_pos h3]
        · rw [if_neg h3] at ho
          cases ho
      by_cases hi0 : i = 0
      · subst hi0
        rw [if_pos (by simp)] at g
        refine evNeg (by omega) ?_
        rw [show src ((l.take 0).map tk) = [] from rfl]
        by_cases hk : l[0].f0 = 2
        · rw [hpc2 hk] at g
          refine evPos hk (Ev.bind hq (evPos (by rw [size_B, size_B]; simp; omega) ?_))
          rw [B_app, List.nil_append]
          exact g
        · rw [hpc1 hk] at g
          refine evNeg hk (evPos (by rw [size_B, size_L]; simp only [List.length_nil]; omega) ?_)
          rw [show B [] ++ l[0].f1 = B (L l[0].f1) from by rw [show B [] ++ l[0].f1 = B [] ++ B (L l[0].f1) from by rw [B_L], B_app, List.nil_append]]
          exact g
      · have hne : (l.take i).map tk ≠ [] := by
          intro e
          have := congrArg List.length e
          rw [List.length_map, List.length_take, List.length_nil] at this
          omega
        rw [if_neg hne] at g
        refine evPos (by omega) (evPos (by rw [size_B]; omega) ?_)
        rw [show (⟨#[32]⟩ : ByteArray) = B [32] from rfl, B_app]
        by_cases hk : l[i].f0 = 2
        · rw [hpc2 hk] at g
          refine evPos hk (Ev.bind hq (evPos (by rw [size_B, size_B]; simp only [List.length_append, List.length_cons, List.length_nil]; omega) ?_))
          rw [B_app, List.append_assoc]
          exact g
        · rw [hpc1 hk] at g
          refine evNeg hk (evPos (by rw [size_B, size_L, List.length_append, List.length_singleton]; omega) ?_)
          rw [show B (src ((l.take i).map tk) ++ [32]) ++ l[i].f1 = B (src ((l.take i).map tk) ++ 32 :: L l[i].f1) from by
            rw [show B (src ((l.take i).map tk) ++ [32]) ++ l[i].f1 = B (src ((l.take i).map tk) ++ [32]) ++ B (L l[i].f1) from by rw [B_L], B_app, List.append_assoc]
            rfl]
          exact g
    · refine evNeg ho (evSome ?_)
      unfold putsR
      rw [hd, List.all_cons, Bool.eq_false_iff.2 ho, Bool.false_and]
      rfl
theorem LexPuts (l : List S33) : ∃ k, postilionlaw44_LexPuts.f k l = some true := by
  refine Ev.rounds ?_
  obtain ⟨b, hb, hp⟩ := few_ends l
  refine Ev.bind hb ?_
  cases b
  · exact evNeg (by simp) (Ev.bind awake (Ev.now _))
  obtain ⟨hl, hs⟩ := hp rfl
  have hr := put_ref_loop l hl hs l.length 0 (by omega)
  rw [List.drop_zero] at hr
  have hf : Ev (fun k => postilionref44_Put.f k l) (putsR l l) := evNeg (by omega) hr
  exact evPos rfl (Ev.bind (put_any l 100 (by omega) (by omega) hs) (Ev.bind hf (evPos rfl (evPos rfl (Ev.bind awake (Ev.now _))))))
end Go.Proofs.Ytbgndegdegfebaa.PureT
