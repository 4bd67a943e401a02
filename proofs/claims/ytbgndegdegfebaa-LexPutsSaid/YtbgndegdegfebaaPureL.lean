/- Plain laws of layer 44 (lex), the first words: what the document's 'in' comes to. No program in sight. -/
import Derived.Test.YtbgndegdegfebaaPure0
import Derived.Test.YtbgndegdegfebaaPureN
import Derived.Test.YtbgndegdegfebaaQ
namespace Go.Proofs.Ytbgndegdegfebaa.PureL
open Go.RowKit Go.Proofs.YtbgndegdegfebaaW.PrintWords Go.Proofs.YtbgndegdegfebaaW.PrintLast Go.Proofs.YtbgndegdegfebaaW.PrintMore Go.Proofs.Ytbgndegdegfebaa.Q Go.Proofs.Ytbgndegdegfebaa.Pure0 Go.Proofs.Ytbgndegdegfebaa.PureM
set_option linter.unusedVariables false
set_option linter.unusedSimpArgs false

theorem in_loop (t : List UInt8) (x : UInt8) (h : t.length < 100000000) (d : Nat) : ∀ i : Nat, i + d = t.length →
    Ev (fun k => postilionref44_in.l0 k (B t) (x.toNat : Int) (i : Int)) (decide (x ∈ t.drop i)) := by
  induction d with
  | zero =>
    intro i hi
    refine evStep (fun k => by rw [postilionref44_in.l0]) ?_
    refine evNeg (by rw [size_B]; omega) (evSome ?_)
    rw [List.drop_eq_nil_of_le (by omega)]
    simp
  | succ d ih =>
    intro i hi
    have hi2 : i < t.length := by omega
    have hd : t.drop i = t[i] :: t.drop (i + 1) := List.drop_eq_getElem_cons hi2
    have hb : bt (B t) (i : Int) = ((t[i]).toNat : Int) := bt_get (B t) i hi2
    refine evStep (fun k => by rw [postilionref44_in.l0]) ?_
    refine evPos (by rw [size_B]; omega) (evPos (by omega) ?_)
    rw [hb, hd]
    by_cases he : t[i] = x
    · refine evPos (by rw [he]) (evSome ?_)
      simp [he]
    · refine evNeg (fun e => he ((u8_nat _ _).1 e)) ?_
      rw [wrap_succ i (by omega)]
      have := ih (i + 1) (by omega)
      have e : decide (x ∈ t[i] :: t.drop (i + 1)) = decide (x ∈ t.drop (i + 1)) := by
        refine decide_eq_decide.2 ?_
        simp only [List.mem_cons]
        exact ⟨fun h => h.resolve_left (fun e => he e.symm), .inr⟩
      rw [e]
      exact this
theorem in_ends (t : List UInt8) (x : UInt8) (h : t.length < 100000000) : Ev (fun k => postilionref44_in.f k (B t) (x.toNat : Int)) (decide (x ∈ t)) := by
  have := in_loop t x h t.length 0 (by omega)
  rw [List.drop_zero] at this
  exact this
theorem lines_loop (t : List UInt8) (h : t.length < 100000000) (d : Nat) : ∀ (i n : Nat), i + d = t.length → n ≤ i →
    Ev (fun k => postilionref44_Lines.l0 k (B t) (n : Int) (i : Int)) ((n + (t.drop i).count 10 : Nat) : Int) := by
  induction d with
  | zero =>
    intro i n hi hn
    refine evStep (fun k => by rw [postilionref44_Lines.l0]) ?_
    refine evNeg (by rw [size_B]; omega) (evSome ?_)
    rw [List.drop_eq_nil_of_le (by omega)]
    simp
  | succ d ih =>
    intro i n hi hn
    have hi2 : i < t.length := by omega
    have hd : t.drop i = t[i] :: t.drop (i + 1) := List.drop_eq_getElem_cons hi2
    have hb : bt (B t) (i : Int) = ((t[i]).toNat : Int) := bt_get (B t) i hi2
    refine evStep (fun k => by rw [postilionref44_Lines.l0]) ?_
    refine evPos (by rw [size_B]; omega) (evPos (by omega) ?_)
    rw [hb, hd, wrap_succ i (by omega)]
    by_cases he : t[i] = 10
    · refine evPos (by rw [he]; rfl) ?_
      rw [wrap_succ n (by omega)]
      have := ih (i + 1) (n + 1) (by omega) (by omega)
      rw [he, List.count_cons_self, show n + ((t.drop (i + 1)).count 10 + 1) = n + 1 + (t.drop (i + 1)).count 10 from by omega]
      exact this
    · refine evNeg (fun e => he ((u8_nat _ 10).1 (by rw [e]; rfl))) ?_
      have := ih (i + 1) n (by omega) (by omega)
      rw [List.count_cons_of_ne (fun e => he e)]
      exact this
theorem lines_ends (t : List UInt8) (h : t.length < 100000000) : Ev (fun k => postilionref44_Lines.f k (B t)) ((t.count 10 : Nat) : Int) := by
  have := lines_loop t h t.length 0 0 (by omega) (Nat.le_refl _)
  rw [List.drop_zero, Nat.zero_add] at this
  exact this

/-! ### a byte of a word: all 256, by the kernel -/
theorem plain_all : (List.range 256).all (fun n => lex_plain.f 4 (n : Int) == some (plainN n)) = true := by kernel_rfl
theorem plain_own (x : UInt8) : Ev (fun k => lex_plain.f k (x.toNat : Int)) (plainU x) := by
  have h := List.all_eq_true.1 plain_all x.toNat (List.mem_range.2 x.toNat_lt)
  exact Ev.of (k := 4) (fun k => lex_plain.mono _ k) (eq_of_beq h)
theorem length_loop (t : List UInt8) (h : t.length < 100000000) (d : Nat) : ∀ i : Nat, i + d = t.length →
    Ev (fun k => lex_length.l0 k (B t) (i : Int)) ((i + ((t.drop i).takeWhile plainU).length : Nat) : Int) := by
  induction d with
  | zero =>
    intro i hi
    refine evStep (fun k => by rw [lex_length.l0]) ?_
    refine evNeg (by rw [size_B]; omega) (evSome ?_)
    rw [List.drop_eq_nil_of_le (by omega)]
    simp
  | succ d ih =>
    intro i hi
    have hi2 : i < t.length := by omega
    have hd : t.drop i = t[i] :: t.drop (i + 1) := List.drop_eq_getElem_cons hi2
    have hb : bt (B t) (i : Int) = ((t[i]).toNat : Int) := bt_get (B t) i hi2
    refine evStep (fun k => by rw [lex_length.l0]) ?_
    refine evPos (by rw [size_B]; omega) (evPos (by omega) ?_)
    rw [hb, hd]
    refine Ev.bind (plain_own t[i]) ?_
    by_cases hp : plainU t[i] = true
    · refine evPos hp ?_
      rw [wrap_succ i (by omega), List.takeWhile_cons_of_pos hp]
      have := ih (i + 1) (by omega)
      rw [List.length_cons, show i + ((((t.drop (i + 1)).takeWhile plainU)).length + 1) = i + 1 + ((t.drop (i + 1)).takeWhile plainU).length from by omega]
      exact this
    · refine evNeg hp (evSome ?_)
      rw [List.takeWhile_cons_of_neg hp]
      simp
theorem length_own (t : List UInt8) (h : t.length < 100000000) : Ev (fun k => lex_length.f k (B t)) (((t.takeWhile plainU).length : Nat) : Int) := by
  have := length_loop t h t.length 0 (by omega)
  rw [List.drop_zero, Nat.zero_add] at this
  exact this

theorem indexByte_mem (l : List UInt8) (x : UInt8) : 0 ≤ Lib.indexByte l x ↔ x ∈ l := by
  induction l with
  | nil => simp [Lib.indexByte]
  | cons b l ih =>
    unfold Lib.indexByte
    by_cases hb : b = x
    · simp [hb]
    · have hb' : ¬ x = b := fun e => hb e.symm
      have hge := Lib.indexByte_ge l x
      by_cases h1 : Lib.indexByte l x = -1
      · have hn : ¬ x ∈ l := fun h => by have := ih.2 h; omega
        simp [hb, hb', h1, hn]
      · have hm : x ∈ l := ih.1 (by omega)
        simp [hb, h1, hm]
        omega
theorem byte_nat (x : UInt8) : ((x.toNat : Int)).toNat.toUInt8 = x := by
  rw [Int.toNat_natCast]
  simp
theorem indexByte_own (l : List UInt8) (x : UInt8) : strings_IndexByte.f (B l) (x.toNat : Int) = some (Lib.indexByte l x) := by
  unfold strings_IndexByte.f stringslite_IndexByte.f
  rw [byte_nat]
  rfl
theorem word_own (t : List UInt8) (h : t.length < 100000000) : Ev (fun k => lex_Word.f k (B t)) (decide (t ≠ [] ∧ (t.takeWhile plainU).length = t.length)) := by
  by_cases h0 : t = []
  · subst h0
    exact evPos (by rw [toL]) (evSome (by simp))
  · refine evNeg (by rw [toL, L_B]; exact h0) (Ev.bind (length_own t h) (evSome ?_))
    rw [size_B]
    by_cases h1 : (t.takeWhile plainU).length = t.length
    · rw [h1]
      simp [h0]
    · have : ¬ (((t.takeWhile plainU).length : Nat) : Int) = ((t.length : Nat) : Int) := by omega
      rw [beq_eq_false_iff_ne.2 this]
      simp [h1]

theorem printed_own (x : UInt8) : lex_printed.f (x.toNat : Int) = some (decide (32 ≤ x.toNat ∧ x.toNat ≤ 126)) := by
  unfold lex_printed.f
  by_cases h : (x.toNat : Int) ≥ 32
  · rw [if_pos h]
    congr 1
    refine decide_eq_decide.2 ?_
    omega
  · rw [if_neg h]
    have : ¬ (32 ≤ x.toNat ∧ x.toNat ≤ 126) := by omega
    rw [decide_eq_false this]
theorem hex_all : (List.range 256).all (fun n => (num_Hex.f 4 (B [n.toUInt8])).map L == some [hexD (n / 16), hexD (n % 16)]) = true := by kernel_rfl
theorem hex_own (x : UInt8) : Ev (fun k => num_Hex.f k (B [x])) (B [hexD (x.toNat / 16), hexD (x.toNat % 16)]) := by
  have h := List.all_eq_true.1 hex_all x.toNat (List.mem_range.2 x.toNat_lt)
  refine Ev.of (k := 4) (fun k => num_Hex.mono _ k) ?_
  have h2 := eq_of_beq h
  have h3 : x.toNat.toUInt8 = x := by simp
  rw [h3] at h2
  obtain ⟨y, hy, he⟩ := Option.map_eq_some_iff.1 h2
  rw [hy]
  congr 1
  exact L_inj he

/-! ### a text between its signs -/
theorem strOfNums_L (x : List Int) : L (strOfNums x) = x.map (fun n => UInt8.ofNat n.toNat) := strOfNums_data x

theorem bytesOf_B (l : List UInt8) : bytesOf (B l) = l.map (fun b => (b.toNat : Int)) := rfl
theorem strOf_bytes (l : List UInt8) : strOfNums (bytesOf (B l)) = B l := by
  apply L_inj
  rw [strOfNums_L, bytesOf_B, List.map_map, L_B]
  conv => rhs; rw [← List.map_id l]
  refine List.map_congr_left (fun x _ => ?_)
  simp
theorem bytesOf_app (l m : List UInt8) : bytesOf (B l) ++ bytesOf (B m) = bytesOf (B (l ++ m)) := by simp [bytesOf_B]
theorem quoted_loop (t : List UInt8) (h : t.length < 100000) (d : Nat) : ∀ (i : Nat) (acc : List UInt8), i + d = t.length → acc.length + 4 * d < 1000000 →
    Ev (fun k => lex_quoted.l0 k (bytesOf (B acc)) (bytesOf (B t)) ((bytesOf (B t)).length : Int) (i : Int)) (B (acc ++ qs (t.drop i) ++ [34])) := by
  have hl : (bytesOf (B t)).length = t.length := by rw [bytesOf_B, List.length_map]
  induction d with
  | zero =>
    intro i acc hi ha
    refine evStep (fun k => by rw [lex_quoted.l0]) ?_
    refine evNeg (by omega) (evPos (by rw [bytesOf_B, List.length_map]; omega) (evSome ?_))
    rw [List.drop_eq_nil_of_le (by omega), show bytesOf (B acc) ++ [34] = bytesOf (B (acc ++ [34])) from bytesOf_app acc [34], strOf_bytes]
    simp [qs]
  | succ d ih =>
    intro i acc hi ha
    have hi2 : i < t.length := by omega
    have hd : t.drop i = t[i] :: t.drop (i + 1) := List.drop_eq_getElem_cons hi2
    have hr : rd (bytesOf (B t)) (i : Int) = ((t[i]).toNat : Int) := by rw [rd_bytesOf]; exact bt_get (B t) i hi2
    have hal : (bytesOf (B acc)).length = acc.length := by rw [bytesOf_B, List.length_map]
    have go : ∀ m : List UInt8, q1 t[i] = m → m.length ≤ 4 → Ev (fun k => lex_quoted.l0 k (bytesOf (B acc) ++ bytesOf (B m)) (bytesOf (B t)) ((bytesOf (B t)).length : Int) (wrap64 ((i : Int) + 1))) (B (acc ++ qs (t.drop i) ++ [34])) := by
      intro m hm hml
      rw [bytesOf_app, wrap_succ i (by omega)]
      have := ih (i + 1) (acc ++ m) (by omega) (by simp; omega)
      rw [show acc ++ qs (t.drop i) = acc ++ m ++ qs (t.drop (i + 1)) from by rw [hd, qs, List.flatMap_cons, hm, List.append_assoc]; rfl]
      exact this
    refine evStep (fun k => by rw [lex_quoted.l0]) ?_
    refine evPos (by omega) (evPos (by omega) (evPos (by omega) ?_))
    rw [hr]
    have two : (t[i] = 34 ∨ t[i] = 92) → Ev (fun k => lex_quoted.j1 k (bytesOf (B acc)) ((t[i]).toNat : Int) (bytesOf (B t)) ((bytesOf (B t)).length : Int) (i : Int) true) (B (acc ++ qs (t.drop i) ++ [34])) := by
      intro h2
      refine evStep (fun k => by rw [lex_quoted.j1]) ?_
      refine evPos rfl (evBindSome rfl (evPos (by rw [hal]; simp; omega) ?_))
      exact go [92, t[i]] (by unfold q1; rw [if_pos h2]) (by simp)
    by_cases h34 : t[i] = 34
    · refine evPos (by rw [h34]; rfl) ?_
      exact two (.inl h34)
    · refine evNeg (fun e => h34 ((u8_nat _ 34).1 (by rw [e]; rfl))) ?_
      by_cases h92 : t[i] = 92
      · rw [show (((t[i]).toNat : Int) == 92) = true from by rw [h92]; rfl]
        exact two (.inr h92)
      · rw [show (((t[i]).toNat : Int) == 92) = false from beq_eq_false_iff_ne.2 (fun e => h92 ((u8_nat _ 92).1 (by rw [e]; rfl)))]
        refine evStep (fun k => by rw [lex_quoted.j1]) ?_
        refine evNeg (by simp) (evBindSome (printed_own t[i]) ?_)
        by_cases hp : 32 ≤ (t[i]).toNat ∧ (t[i]).toNat ≤ 126
        · refine evPos (decide_eq_true hp) (evPos (by rw [hal]; omega) ?_)
          exact go [t[i]] (by unfold q1; rw [if_neg (fun h => h.elim h34 h92), if_pos hp]) (by simp)
        · refine evNeg (by rw [decide_eq_false hp]; simp) (evBindSome rfl (evPos (by rw [hal]; simp; omega) (evBindSome rfl ?_)))
          have hx := hex_own t[i]
          rw [show B [t[i]] = strOfNums [((t[i]).toNat : Int)] from (strOf_bytes [t[i]]).symm] at hx
          refine Ev.bind hx (evPos (by rw [List.length_append, hal, size_B]; simp; omega) ?_)
          rw [List.append_assoc, show ([92, 120] : List Int) ++ bytesOf (B [hexD ((t[i]).toNat / 16), hexD ((t[i]).toNat % 16)]) = bytesOf (B [92, 120, hexD ((t[i]).toNat / 16), hexD ((t[i]).toNat % 16)]) from rfl]
          exact go _ (by unfold q1; rw [if_neg (fun h => h.elim h34 h92), if_neg hp]) (by simp)
theorem quoted_own (t : List UInt8) (h : t.length < 100000) : Ev (fun k => lex_quoted.f k (B t)) (B (34 :: qs t ++ [34])) := by
  refine evPos (by rw [size_B]; omega) ?_
  have := quoted_loop t h t.length 0 [34] (by omega) (by simp; omega)
  rw [List.drop_zero] at this
  exact this

/-! ### a lexeme as it is written -/
theorem contains_own (l : List UInt8) (c : UInt8) : strings_Contains.f (B l) (B [c]) = some (decide (c ∈ l)) := by
  unfold strings_Contains.f
  show some (decide (0 ≤ Lib.indexByte l c)) = _
  rw [decide_eq_decide.2 (indexByte_mem l c)]
theorem put_own (n m : Int) (t : List UInt8) (h : t.length < 100000) : Ev (fun k => lex_put.f k n (B t) m) (B (pt n t).1, (pt n t).2) := by
  unfold pt
  by_cases h1 : n = 1
  · rw [if_pos h1]
    exact evPos h1 (Ev.bind (word_own t (by omega)) (Ev.now _))
  rw [if_neg h1]
  refine evNeg h1 ?_
  by_cases h2 : n = 2
  · rw [if_pos h2]
    exact evPos h2 (Ev.bind (quoted_own t h) (evBindSome (contains_own t 0) (Ev.now _)))
  rw [if_neg h2]
  refine evNeg h2 ?_
  by_cases h3 : n = 3
  · rw [show (if n = 3 then (t, signB t) else (([] : List UInt8), false)) = (t, signB t) from if_pos h3]
    refine evPos h3 ?_
    match t with
    | [] => exact evNeg (by rw [size_B]; decide) (Ev.now _)
    | [c] => exact evPos rfl (evBindSome (contains_own signs c) (Ev.now _))
    | a :: b :: l => exact evNeg (by rw [size_B]; simp only [List.length_cons]; omega) (Ev.now _)
  · rw [show (if n = 3 then (t, signB t) else (([] : List UInt8), false)) = (([] : List UInt8), false) from if_neg h3]
    exact evNeg h3 (Ev.now _)

/-! ### lexemes as a source -/
def ok1 (x : S33) : Bool := (pt x.f0 (L x.f1)).2
def piece (x : S33) : ByteArray := B (pt x.f0 (L x.f1)).1
theorem rd33_nat (l : List S33) (i : Nat) (h : i < l.length) : rd_T33 l (i : Int) = l[i] := by
  rw [rd_T33, Int.toNat_natCast, List.getD_eq_getElem?_getD, List.getElem?_eq_getElem h]
  rfl
def putsR (l m : List S33) : ByteArray × Int := if m.all ok1 then (B (Lib.join ((l.map piece).map L) [32]), 0) else (⟨#[]⟩, 1)
theorem Put_loop (l : List S33) (hl : l.length ≤ 4096) (hs : ∀ j (h : j < l.length), (L l[j].f1).length < 100000) (hj : (Lib.join ((l.map piece).map L) [32]).length ≤ 140737488355328) (d : Nat) : ∀ i : Nat, i + d = l.length →
    Ev (fun k => lex_Put.l0 k ((l.take i).map piece) l (l.length : Int) (i : Int)) (putsR l (l.drop i)) := by
  induction d with
  | zero =>
    intro i hi
    refine evStep (fun k => by rw [lex_Put.l0]) ?_
    refine evNeg (by omega) ?_
    rw [List.drop_eq_nil_of_le (by omega), List.take_of_length_le (by omega)]
    refine evBindSome (x := B (Lib.join ((l.map piece).map L) [32])) ?_ (evSome rfl)
    unfold strings_Join.f
    exact if_pos ⟨by rw [List.length_map]; omega, hj⟩
  | succ d ih =>
    intro i hi
    have hi2 : i < l.length := by omega
    have hd : l.drop i = l[i] :: l.drop (i + 1) := List.drop_eq_getElem_cons hi2
    refine evStep (fun k => by rw [lex_Put.l0]) ?_
    refine evPos (by omega) (evPos (by omega) (evPos (by omega) ?_))
    rw [rd33_nat l i hi2]
    have hp := put_own l[i].f0 l[i].f2 (L l[i].f1) (hs i hi2)
    rw [B_L] at hp
    refine Ev.bind hp ?_
    by_cases ho : ok1 l[i] = true
    · refine evPos ho (evPos (by rw [List.length_map, List.length_take]; omega) ?_)
      have e : (l.take i).map piece ++ [B (pt l[i].f0 (L l[i].f1)).1] = (l.take (i + 1)).map piece := by
        rw [List.take_succ_eq_append_getElem hi2, List.map_append]
        rfl
      rw [e, wrap_succ i (by omega)]
      have h2 : putsR l (l.drop i) = putsR l (l.drop (i + 1)) := by
        unfold putsR
        rw [hd, List.all_cons, ho, Bool.true_and]
      rw [h2]
      exact ih (i + 1) (by omega)
    · refine evNeg ho (evSome ?_)
      unfold putsR
      rw [hd, List.all_cons, Bool.eq_false_iff.2 ho, Bool.false_and]
      rfl
theorem Put_own (l : List S33) (hl : l.length ≤ 4096) (hs : ∀ j (h : j < l.length), (L l[j].f1).length < 100000) (hj : (Lib.join ((l.map piece).map L) [32]).length ≤ 140737488355328) :
    Ev (fun k => lex_Put.f k l) (putsR l l) := by
  refine evNeg (by omega) ?_
  have := Put_loop l hl hs hj l.length 0 (by omega)
  rw [List.drop_zero] at this
  exact this
end Go.Proofs.Ytbgndegdegfebaa.PureL
