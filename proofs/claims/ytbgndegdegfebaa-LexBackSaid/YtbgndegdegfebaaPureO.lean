/- Plain laws of layer 44 (lex): what the program's own reader answers, by what the source reads as. No program in sight. -/
import Derived.Test.YtbgndegdegfebaaPureL
namespace Go.Proofs.Ytbgndegdegfebaa.PureO
open Go.RowKit Go.Proofs.YtbgndegdegfebaaW.PrintWords Go.Proofs.YtbgndegdegfebaaW.PrintLast Go.Proofs.YtbgndegdegfebaaW.PrintMore Go.Proofs.Ytbgndegdegfebaa.Q Go.Proofs.Ytbgndegdegfebaa.Pure0 Go.Proofs.Ytbgndegdegfebaa.PureM Go.Proofs.Ytbgndegdegfebaa.PureN Go.Proofs.Ytbgndegdegfebaa.PureL
set_option linter.unusedVariables false
set_option linter.unusedSimpArgs false

theorem bt0 (c : UInt8) (t : List UInt8) : bt (B (c :: t)) 0 = (c.toNat : Int) := bt_get (B (c :: t)) 0 (by simp)
theorem bt1 (c d : UInt8) (t : List UInt8) : bt (B (c :: d :: t)) 1 = (d.toNat : Int) := bt_get (B (c :: d :: t)) 1 (by simp)
theorem B_nil {l : List UInt8} : (B l).toList = [] ↔ l = [] := by rw [toL, L_B]
theorem cut_own (N : Nat) (l p q : List UInt8) (a : Int) (hl : l = p ++ q) (ha : a = (p.length : Int)) (hN : l.count 10 < N) (hb : N < 200000000) :
    lex_reader_cut.f (B l) ((N - l.count 10 : Nat) : Int) a = some (B p, B q, ((N - q.count 10 : Nat) : Int)) := by
  subst hl ha
  unfold lex_reader_cut.f
  rw [if_pos ⟨by omega, by rw [size_B, List.length_append]; omega⟩, Int.toNat_natCast, ext_take, ext_drop, List.take_left, List.drop_left]
  rw [List.count_append] at hN ⊢
  show some (B p, B q, wrap64 (((N - (p.count 10 + q.count 10) : Nat) : Int) + (p.count 10 : Nat))) = _
  rw [wrap_add _ _ (by omega), show N - (p.count 10 + q.count 10) + p.count 10 = N - q.count 10 from by omega]
theorem pre_eol : ∀ l : List UInt8, pre 10 l ++ eol l = l
  | [] => rfl
  | a :: l => by
    have := pre_eol l
    by_cases h : a = 10
    · subst h
      simp [pre, eol]
    · unfold eol at this ⊢
      rw [pre, if_neg h, List.dropWhile_cons_of_pos (by simpa using h), List.cons_append, this]
theorem hasPrefix_own (l p : List UInt8) : strings_HasPrefix.f (B l) (B p) = some (p.isPrefixOf l) := by
  have e : ((B l).extract 0 (((B p).size : Int)).toNat).toList = l.take p.length := by rw [Int.toNat_natCast, size_B, toL, L_take]
  unfold strings_HasPrefix.f stringslite_HasPrefix.f
  by_cases h : p.length ≤ l.length
  · rw [if_pos (by rw [size_B, size_B]; omega), if_pos (by omega), if_pos (by rw [size_B, size_B]; omega)]
    rw [Option.bind_some, e, toL, L_B]
    congr 1
    rw [Bool.eq_iff_iff, beq_iff_eq, List.isPrefixOf_iff_prefix, List.prefix_iff_eq_take]
    exact eq_comm
  · rw [if_neg (by rw [size_B, size_B]; omega)]
    have : p.isPrefixOf l = false := by
      rw [Bool.eq_false_iff]
      intro hp
      exact h (List.isPrefixOf_iff_prefix.1 hp).length_le
    rw [this]
    rfl
theorem index_aft : ∀ t : List UInt8, (aft t = none → Lib.index t [42, 47] = -1) ∧ (∀ u, aft t = some u → Lib.index t [42, 47] = ((t.length - u.length - 2 : Nat) : Int) ∧ u.length + 2 ≤ t.length)
  | [] => ⟨fun _ => rfl, fun u h => by cases h⟩
  | a :: t => by
    have ih := index_aft t
    unfold aft Lib.index
    by_cases hp : [42, 47].isPrefixOf (a :: t) = true
    · rw [if_pos hp, if_pos hp]
      refine ⟨(fun h => by cases h), fun u h => ?_⟩
      cases h
      cases t with
      | nil => simp [List.isPrefixOf] at hp
      | cons b t =>
        simp
        omega
    · rw [if_neg hp, if_neg hp]
      refine ⟨fun h => ?_, fun u h => ?_⟩
      · rw [ih.1 h]
        rfl
      · obtain ⟨h1, h2⟩ := ih.2 u h
        rw [h1]
        have : ¬ ((((t.length - u.length - 2 : Nat) : Int) == -1) = true) := by rw [beq_iff_eq]; omega
        rw [if_neg this, List.length_cons]
        exact ⟨by omega, by omega⟩
theorem neg_index {l : List UInt8} {c : UInt8} (h : c ∉ l) : ¬ 0 ≤ Lib.indexByte l c := fun h2 => h ((indexByte_mem l c).1 h2)
theorem skip_own {N : Nat} {l r : List UInt8} {b : Bool} (h : Sk l r b) : l.count 10 < N → l.length < 100000000 → N < 200000000 →
    Ev (fun k => lex_reader_skip.f k (B l) ((N - l.count 10 : Nat) : Int)) (b, B r, ((N - r.count 10 : Nat) : Int)) := by
  induction h with
  | nil =>
    intro _ _ _
    refine evStep (fun k => by rw [lex_reader_skip.f]) ?_
    exact evPos rfl (Ev.now _)
  | @blank c t r b hc hs ih =>
    intro h1 h2 h3
    have hle : t.count 10 ≤ (c :: t).count 10 := suf_count (List.suffix_cons _ _)
    refine evStep (fun k => by rw [lex_reader_skip.f]) ?_
    refine evNeg (by rw [size_B, List.length_cons]; omega) ?_
    rw [bt0]
    refine evBindSome (indexByte_own blanks c) (evPos ((indexByte_mem blanks c).2 hc) ?_)
    refine evBindSome (cut_own N (c :: t) [c] t 1 rfl rfl h1 h3) ?_
    exact ih (by omega) (by rw [List.length_cons] at h2; omega) h3
  | @line t r b hs ih =>
    intro h1 h2 h3
    have hle : (eol t).count 10 ≤ (47 :: 47 :: t).count 10 := suf_count (((eol_suf t).trans (List.suffix_cons _ _)).trans (List.suffix_cons _ _))
    have hln := suf_len (eol_suf t)
    refine evStep (fun k => by rw [lex_reader_skip.f]) ?_
    refine evNeg (by rw [size_B, List.length_cons]; omega) ?_
    rw [bt0]
    refine evBindSome (indexByte_own blanks 47) (evNeg (by decide) ?_)
    refine evBindSome (hasPrefix_own _ [47, 47]) (evPos rfl ?_)
    have hc : strings_Cut.f (B (47 :: 47 :: t)) (⟨#[10]⟩ : ByteArray) = some (B (Lib.cut (47 :: 47 :: t) [10]).1, B (Lib.cut (47 :: 47 :: t) [10]).2.1, (Lib.cut (47 :: 47 :: t) [10]).2.2) := by
      unfold strings_Cut.f
      rw [if_pos (by rw [size_B]; omega)]
    refine evBindSome hc ?_
    rw [cut_pre]
    refine evBindSome (cut_own N (47 :: 47 :: t) (pre 10 (47 :: 47 :: t)) (eol t) _ ?_ (by rw [size_B]) h1 h3) ?_
    · have := pre_eol (47 :: 47 :: t)
      exact this.symm
    exact ih (by omega) (by simp only [List.length_cons] at h2; omega) h3
  | @rem t u r b ha hs ih =>
    intro h1 h2 h3
    have hle : u.count 10 ≤ (47 :: 42 :: t).count 10 := suf_count (((aft_suf ha).trans (List.suffix_cons _ _)).trans (List.suffix_cons _ _))
    have hx := (index_aft t).2 u ha
    refine evStep (fun k => by rw [lex_reader_skip.f]) ?_
    refine evNeg (by rw [size_B, List.length_cons]; omega) ?_
    rw [bt0]
    refine evBindSome (indexByte_own blanks 47) (evNeg (by decide) ?_)
    refine evBindSome (hasPrefix_own _ [47, 47]) (evNeg (by simp [List.isPrefixOf]) ?_)
    refine evBindSome (hasPrefix_own _ [47, 42]) (evPos (by simp [List.isPrefixOf]) ?_)
    refine evPos (by rw [size_B]; simp only [List.length_cons]; omega) ?_
    have hi : strings_Index.f ((B (47 :: 42 :: t)).extract 2 (B (47 :: 42 :: t)).size) (⟨#[42, 47]⟩ : ByteArray) = some ((t.length - u.length - 2 : Nat) : Int) := by
      rw [ext_drop]
      unfold strings_Index.f
      rw [if_pos (by rw [size_B]; simp only [List.length_drop, List.length_cons] at h2 ⊢; omega), ← hx.1]
      rfl
    refine evBindSome hi (evNeg (by omega) ?_)
    obtain ⟨p, hp⟩ := aft_suf ha
    have hl : p.length + u.length = t.length := by rw [← hp, List.length_append]
    simp only [List.length_cons] at h2
    refine evBindSome (cut_own N (47 :: 42 :: t) (47 :: 42 :: p) u _ (by rw [← hp]; rfl) ?_ h1 h3) ?_
    · rw [wrap_le (2 + _) (by omega) (by omega), wrap_le _ (by omega) (by omega), List.length_cons, List.length_cons]
      omega
    exact ih (by omega) (by omega) h3
  | @bad t ha =>
    intro h1 h2 h3
    refine evStep (fun k => by rw [lex_reader_skip.f]) ?_
    refine evNeg (by rw [size_B, List.length_cons]; omega) ?_
    rw [bt0]
    refine evBindSome (indexByte_own blanks 47) (evNeg (by decide) ?_)
    refine evBindSome (hasPrefix_own _ [47, 47]) (evNeg (by simp [List.isPrefixOf]) ?_)
    refine evBindSome (hasPrefix_own _ [47, 42]) (evPos (by simp [List.isPrefixOf]) ?_)
    refine evPos (by rw [size_B]; simp only [List.length_cons]; omega) ?_
    have hi : strings_Index.f ((B (47 :: 42 :: t)).extract 2 (B (47 :: 42 :: t)).size) (⟨#[42, 47]⟩ : ByteArray) = some (-1) := by
      rw [ext_drop]
      unfold strings_Index.f
      rw [if_pos (by rw [size_B]; simp only [List.length_drop, List.length_cons] at h2 ⊢; omega), ← (index_aft t).1 ha]
      rfl
    exact evBindSome hi (evPos (by omega) (Ev.now _))
  | @stop c t hb h4 h5 =>
    intro h1 h2 h3
    refine evStep (fun k => by rw [lex_reader_skip.f]) ?_
    refine evNeg (by rw [size_B, List.length_cons]; omega) ?_
    rw [bt0]
    refine evBindSome (indexByte_own blanks c) (evNeg (neg_index hb) ?_)
    refine evBindSome (hasPrefix_own _ [47, 47]) (evNeg (by rw [h4]; simp) ?_)
    refine evBindSome (hasPrefix_own _ [47, 42]) (evNeg (by rw [h5]; simp) ?_)
    exact Ev.now _

/-! ### the digits of a byte -/
def digs : List UInt8 := [48, 49, 50, 51, 52, 53, 54, 55, 56, 57, 97, 98, 99, 100, 101, 102]
def hvN (n : Nat) : Int := if 48 ≤ n ∧ n ≤ 57 then ((n - 48 : Nat) : Int) else if 97 ≤ n ∧ n ≤ 102 then ((n - 87 : Nat) : Int) else -1
theorem hv_all : (List.range 256).all (fun n => strings_IndexByte.f (B digs) (n : Int) == some (hvN n)) = true := by kernel_rfl
theorem hv_own (c : UInt8) : strings_IndexByte.f (B digs) (c.toNat : Int) = some (hvN c.toNat) := by
  have h := List.all_eq_true.1 hv_all c.toNat (List.mem_range.2 c.toNat_lt)
  exact eq_of_beq h
theorem hv_some {c : UInt8} {x : Nat} (h : hexV c = some x) : hvN c.toNat = (x : Int) ∧ x < 16 := by
  unfold hexV at h
  unfold hvN
  split at h
  · rename_i h1
    cases h
    rw [if_pos h1]
    exact ⟨rfl, by omega⟩
  · rename_i h1
    rw [if_neg h1]
    split at h
    · rename_i h2
      cases h
      rw [if_pos h2]
      exact ⟨rfl, by omega⟩
    · cases h
theorem hv_none {c : UInt8} (h : hexV c = none) : hvN c.toNat = -1 := by
  unfold hexV at h
  unfold hvN
  split at h
  · cases h
  · rename_i h1
    rw [if_neg h1]
    split at h
    · cases h
    · rename_i h2
      rw [if_neg h2]
theorem or_all : (List.range 16).all (fun x => (List.range 16).all fun y => (Go.bits .or .i64 (wrap64 ((x : Int) * 16)) (y : Int)) % 256 == ((16 * x + y : Nat) : Int)) = true := by kernel_rfl
theorem or_own (x y : Nat) (hx : x < 16) (hy : y < 16) : (Go.bits .or .i64 (wrap64 ((x : Int) * 16)) (y : Int)) % 256 = ((16 * x + y : Nat) : Int) :=
  eq_of_beq (List.all_eq_true.1 (List.all_eq_true.1 or_all x (List.mem_range.2 hx)) y (List.mem_range.2 hy))
/-- What two digits come to. -/
def hx2 (a b : UInt8) : ByteArray × Bool := match hexV a, hexV b with
  | some x, some y => (B [UInt8.ofNat (16 * x + y)], true)
  | _, _ => (B [], false)
theorem fromHex_own (a b : UInt8) : Ev (fun k => num_FromHex.f k (B [a, b])) (hx2 a b) := by
  refine evStep (f := fun k => _) (fun k => by unfold num_FromHex.f; rw [num_FromHex.l0]) ?_
  refine evPos (by rw [size_B]; simp) (evPos (by rw [size_B]; simp) ?_)
  rw [bt0, bt1]
  refine evBindSome (hv_own a) (evPos (by rw [size_B]; simp) (evBindSome (hv_own b) ?_))
  cases ha : hexV a with
  | none =>
    rw [show hx2 a b = (B [], false) from by unfold hx2; rw [ha]]
    exact evPos (by rw [hv_none ha]; decide) (Ev.now _)
  | some x =>
    have hx := hv_some ha
    refine evNeg (by omega) ?_
    cases hb : hexV b with
    | none =>
      rw [show hx2 a b = (B [], false) from by unfold hx2; rw [ha, hb]]
      exact evPos (by rw [hv_none hb]; decide) (Ev.now _)
    | some y =>
      have hy := hv_some hb
      rw [show hx2 a b = (B [UInt8.ofNat (16 * x + y)], true) from by unfold hx2; rw [ha, hb]]
      refine evNeg (by omega) (evPos (by simp) (evPos (by rw [size_B]; simp) ?_))
      rw [hx.1, hy.1, or_own x y hx.2 hy.2, ext_drop]
      refine evStep (fun k => by rw [num_FromHex.l0]) ?_
      refine evNeg (by rw [size_B]; simp) (evPos (by rw [B_nil]; rfl) (evSome ?_))
      rw [List.nil_append]
      congr 1
theorem ext_24 (c d a b : UInt8) (v : List UInt8) : (B (c :: d :: a :: b :: v)).extract 2 4 = B [a, b] := L_inj (by rw [L_ext]; rfl)
/-- The byte that a text goes on with, as numbers. -/
def oneI (l : List UInt8) : Int × Int := match oneL l with
  | some (b, n) => ((b.toNat : Int), (n : Int))
  | none => (0, 0)
theorem one_j1 (c d : UInt8) (u : List UInt8) (h : d = 120) (hl : 2 ≤ u.length) :
    Ev (fun k => lex_one.j1 k (B (c :: d :: u)) true) (match oneX u with | some (b, n) => ((b.toNat : Int), (n : Int)) | none => (0, 0)) := by
  match u, hl with
  | a :: b :: v, hl =>
    refine evStep (fun k => by rw [lex_one.j1]) ?_
    refine evPos rfl (evPos (by decide) (evPos (by rw [size_B]; simp only [List.length_cons]; omega) ?_))
    rw [ext_24]
    refine Ev.bind (fromHex_own a b) ?_
    rw [oneX_cons]
    unfold hex2 hx2
    cases ha : hexV a with
    | none => exact evNeg (by simp) (Ev.now _)
    | some x =>
      cases hb : hexV b with
      | none => exact evNeg (by simp) (Ev.now _)
      | some y =>
        have hx := hv_some ha
        have hy := hv_some hb
        have hlt : 16 * x + y < 256 := by omega
        have hn : (UInt8.ofNat (16 * x + y)).toNat = 16 * x + y := by rw [show (UInt8.ofNat (16 * x + y)).toNat = (16 * x + y) % 256 from rfl, Nat.mod_eq_of_lt hlt]
        refine evPos rfl ?_
        rw [Option.bind_some, Option.bind_some]
        by_cases hz : 16 * x + y = 0
        · rw [if_pos hz]
          refine evPos ?_ (Ev.now _)
          rw [toL, L_B, hz]
          rfl
        · rw [if_neg hz]
          refine evNeg ?_ (evPos (by rw [size_B]; simp) ?_)
          · rw [toL, L_B]
            intro e
            have := congrArg UInt8.toNat (List.cons.inj e).1
            rw [hn] at this
            exact hz this
          · rw [bt0]
            exact Ev.now _
theorem one_own (c : UInt8) (t : List UInt8) : Ev (fun k => lex_one.f k (B (c :: t))) (oneI (c :: t)) := by
  refine evPos (by rw [size_B, List.length_cons]; omega) ?_
  rw [bt0]
  refine evBindSome (printed_own c) ?_
  unfold oneI
  rw [oneL_cons]
  by_cases hp : 32 ≤ c.toNat ∧ c.toNat ≤ 126
  · rw [if_neg (fun h => h hp)]
    refine evPos (decide_eq_true hp) ?_
    by_cases hc : c = 92
    · rw [if_neg (fun h => h hc)]
      refine evPos (by rw [hc]; rfl) ?_
      match t with
      | [] =>
        refine evNeg (by rw [size_B]; simp) ?_
        refine evStep (fun k => by rw [lex_one.j0]) ?_
        refine evNeg (by simp) (evNeg (by rw [size_B]; simp) ?_)
        refine evStep (fun k => by rw [lex_one.j1]) ?_
        exact evNeg (by simp) (Ev.now _)
      | d :: u =>
        have hs : ((B (c :: d :: u)).size : Int) > 1 := by rw [size_B]; simp only [List.length_cons]; omega
        refine evPos hs (evPos hs ?_)
        rw [bt1, oneB_cons]
        have two : (d = 34 ∨ d = 92) → Ev (fun k => lex_one.j0 k (B (c :: d :: u)) true) ((d.toNat : Int), 2) := by
          intro hd
          refine evStep (fun k => by rw [lex_one.j0]) ?_
          refine evPos rfl (evPos hs ?_)
          rw [bt1]
          exact Ev.now _
        by_cases h34 : d = 34
        · rw [if_pos (.inl h34)]
          refine evPos (by rw [h34]; rfl) ?_
          exact two (.inl h34)
        refine evNeg (fun e => h34 ((u8_nat _ 34).1 (by rw [e]; rfl))) ?_
        by_cases h92 : d = 92
        · rw [if_pos (.inr h92), show ((d.toNat : Int) == 92) = true from by rw [h92]; rfl]
          exact two (.inr h92)
        rw [if_neg (fun h => h.elim h34 h92), show ((d.toNat : Int) == 92) = false from beq_eq_false_iff_ne.2 (fun e => h92 ((u8_nat _ 92).1 (by rw [e]; rfl)))]
        refine evStep (fun k => by rw [lex_one.j0]) ?_
        refine evNeg (by simp) ?_
        by_cases hl : 2 ≤ u.length
        · refine evPos (by rw [size_B]; simp only [List.length_cons]; omega) (evPos hs ?_)
          rw [bt1]
          by_cases hx : d = 120
          · rw [if_pos hx, show ((d.toNat : Int) == 120) = true from by rw [hx]; rfl]
            exact one_j1 c d u hx hl
          · rw [if_neg hx, show ((d.toNat : Int) == 120) = false from beq_eq_false_iff_ne.2 (fun e => hx ((u8_nat _ 120).1 (by rw [e]; rfl)))]
            refine evStep (fun k => by rw [lex_one.j1]) ?_
            exact evNeg (by simp) (Ev.now _)
        · refine evNeg (by rw [size_B]; simp only [List.length_cons]; omega) ?_
          refine evStep (fun k => by rw [lex_one.j1]) ?_
          refine evNeg (by simp) (evSome ?_)
          by_cases hx : d = 120
          · rw [if_pos hx]
            match u, hl with
            | [], hl => rfl
            | [a], hl => rfl
            | a :: b :: v, hl => simp at hl
          · rw [if_neg hx]
    · rw [if_pos hc]
      exact evNeg (fun e => hc ((u8_nat _ 92).1 (by rw [e]; rfl))) (Ev.now _)
  · rw [if_pos hp]
    exact evNeg (by rw [decide_eq_false hp]; simp) (Ev.now _)

/-! ### a text -/
def txO (q : Option (List UInt8 × List UInt8)) (left : ByteArray) (ln : Int) : ByteArray × Bool × ByteArray × Int := match q with
  | some (o, r) => (B o, true, B r, ln)
  | none => (B [], false, left, ln)
theorem text_loop {l acc : List UInt8} {q : Option (List UInt8 × List UInt8)} (h : Tx l acc q) (left : ByteArray) (ln : Int) : acc.length + l.length < 100000000 →
    Ev (fun k => lex_reader_text.l0 k (bytesOf (B acc)) (B l) left ln) (txO q left ln) := by
  induction h with
  | @fin t acc =>
    intro h1
    refine evStep (fun k => by rw [lex_reader_text.l0]) ?_
    refine evNeg (by rw [B_nil]; simp) (evPos (by rw [size_B, List.length_cons]; omega) ?_)
    rw [bt0]
    refine evStep (fun k => by rw [lex_reader_text.j1]) ?_
    refine evNeg (by simp) (evNeg (by rw [B_nil]; simp) (evPos (by rw [size_B, List.length_cons]; omega) (evSome ?_)))
    rw [strOf_bytes, ext_drop]
    rfl
  | @out acc =>
    intro h1
    refine evStep (fun k => by rw [lex_reader_text.l0]) ?_
    refine evPos (by rw [B_nil]) ?_
    refine evStep (fun k => by rw [lex_reader_text.j1]) ?_
    exact evNeg (by simp) (evPos (by rw [B_nil]) (Ev.now _))
  | @bad c t acc hc ho =>
    intro h1
    refine evStep (fun k => by rw [lex_reader_text.l0]) ?_
    refine evNeg (by rw [B_nil]; simp) (evPos (by rw [size_B, List.length_cons]; omega) ?_)
    rw [bt0]
    refine evStep (fun k => by rw [lex_reader_text.j1]) ?_
    refine evPos (bne_iff_ne.2 (fun e => hc ((u8_nat _ 34).1 (by rw [e]; rfl)))) (Ev.bind (one_own c t) ?_)
    unfold oneI
    rw [ho]
    exact evPos rfl (Ev.now _)
  | @go c t acc b n q hc ho hr ih =>
    intro h1
    have hn := oneL_pos ho
    refine evStep (fun k => by rw [lex_reader_text.l0]) ?_
    refine evNeg (by rw [B_nil]; simp) (evPos (by rw [size_B, List.length_cons]; omega) ?_)
    rw [bt0]
    refine evStep (fun k => by rw [lex_reader_text.j1]) ?_
    refine evPos (bne_iff_ne.2 (fun e => hc ((u8_nat _ 34).1 (by rw [e]; rfl)))) (Ev.bind (one_own c t) ?_)
    unfold oneI
    rw [ho]
    refine evNeg (by show ¬ ((n : Int) = 0); omega) (evPos (by rw [bytesOf_B, List.length_map]; omega) (evPos (by show 0 ≤ (n : Int); omega) (evPos (by show (n : Int) ≤ _; rw [size_B]; omega) ?_)))
    show Ev (fun k => lex_reader_text.l0 k (bytesOf (B acc) ++ [(b.toNat : Int)]) ((B (c :: t)).extract ((n : Int)).toNat (B (c :: t)).size) left ln) _
    rw [Int.toNat_natCast, ext_drop, show bytesOf (B acc) ++ [(b.toNat : Int)] = bytesOf (B (acc ++ [b])) from bytesOf_app acc [b]]
    exact ih (by rw [List.length_append, List.length_drop, List.length_singleton]; omega)

/-! ### a lexeme -/
def nxO (N : Nat) (l : List UInt8) : Option (Int × List UInt8 × List UInt8) → Int × ByteArray × Int × Bool × ByteArray × Int → Prop
  | some (k, x, u), y => y = (k, B x, ((N - l.count 10 : Nat) : Int), true, B u, ((N - u.count 10 : Nat) : Int))
  | none, y => y.2.2.2.1 = false ∧ y.2.2.2.2.2 = ((N - l.count 10 : Nat) : Int)
theorem next_own {N : Nat} {l : List UInt8} {q : Option (Int × List UInt8 × List UInt8)} (h : Nx l q) (hN : l.count 10 < N) (hl : l.length < 100000000) (hb : N < 200000000) :
    ∃ y, nxO N l q y ∧ Ev (fun k => lex_reader_next.f k (B l) ((N - l.count 10 : Nat) : Int)) y := by
  have hsz : ∀ (c : UInt8) (t : List UInt8), 0 < ((B (c :: t)).size : Int) := fun c t => by rw [size_B, List.length_cons]; omega
  cases h with
  | @text t o r h =>
    have hc := (tx_suf h _ _ rfl).2.2.2.2
    refine ⟨_, rfl, ?_⟩
    refine evPos (hsz _ _) ?_
    rw [bt0]
    refine evPos rfl ?_
    have h1 := text_loop h (B (34 :: t)) ((N - (34 :: t).count 10 : Nat) : Int) (by simp only [List.length_nil, List.length_cons] at hl ⊢; omega)
    have h2 : Ev (fun k => lex_reader_text.f k (B (34 :: t)) ((N - (34 :: t).count 10 : Nat) : Int)) (txO (some (o, r)) (B (34 :: t)) ((N - (34 :: t).count 10 : Nat) : Int)) := by
      refine evPos (by have := hsz 34 t; omega) ?_
      rw [ext_drop]
      exact h1
    refine Ev.bind h2 (evSome ?_)
    unfold txO
    have : (34 :: t).count 10 = r.count 10 := by rw [hc, List.count_cons_of_ne (by decide)]
    rw [this]
  | @tbad t h =>
    refine ⟨(2, B [], ((N - (34 :: t).count 10 : Nat) : Int), false, B (34 :: t), ((N - (34 :: t).count 10 : Nat) : Int)), ⟨rfl, rfl⟩, ?_⟩
    refine evPos (hsz _ _) ?_
    rw [bt0]
    refine evPos rfl ?_
    have h1 := text_loop h (B (34 :: t)) ((N - (34 :: t).count 10 : Nat) : Int) (by simp only [List.length_nil, List.length_cons] at hl ⊢; omega)
    have h2 : Ev (fun k => lex_reader_text.f k (B (34 :: t)) ((N - (34 :: t).count 10 : Nat) : Int)) (txO none (B (34 :: t)) ((N - (34 :: t).count 10 : Nat) : Int)) := by
      refine evPos (by have := hsz 34 t; omega) ?_
      rw [ext_drop]
      exact h1
    exact Ev.bind h2 (evSome rfl)
  | @sign c t h =>
    have hne : c ≠ 34 := fun e => by rw [e] at h; exact absurd h (by decide)
    refine ⟨_, rfl, ?_⟩
    refine evPos (hsz _ _) ?_
    rw [bt0]
    refine evNeg (fun e => hne ((u8_nat _ 34).1 (by rw [e]; rfl))) (evBindSome (indexByte_own signs c) (evPos ((indexByte_mem signs c).2 h) ?_))
    exact evBindSome (cut_own N (c :: t) [c] t 1 rfl rfl hN hb) (Ev.now _)
  | @word c t h1 h2 h3 =>
    refine ⟨_, rfl, ?_⟩
    refine evPos (hsz _ _) ?_
    rw [bt0]
    refine evNeg (fun e => h1 ((u8_nat _ 34).1 (by rw [e]; rfl))) (evBindSome (indexByte_own signs c) (evNeg (neg_index h2) (Ev.bind (plain_own c) (evPos h3 ?_))))
    refine Ev.bind (length_own (c :: t) hl) ?_
    refine evBindSome (cut_own N (c :: t) (c :: t.takeWhile plainU) (t.dropWhile plainU) _ ?_ ?_ hN hb) (Ev.now _)
    · rw [List.cons_append, List.takeWhile_append_dropWhile]
    · rw [List.takeWhile_cons_of_pos h3]
  | @no c t h1 h2 h3 =>
    refine ⟨(0, B [], ((N - (c :: t).count 10 : Nat) : Int), false, B (c :: t), ((N - (c :: t).count 10 : Nat) : Int)), ⟨rfl, rfl⟩, ?_⟩
    refine evPos (hsz _ _) ?_
    rw [bt0]
    refine evNeg (fun e => h1 ((u8_nat _ 34).1 (by rw [e]; rfl))) (evBindSome (indexByte_own signs c) (evNeg (neg_index h2) (Ev.bind (plain_own c) (evNeg (by rw [h3]; simp) ?_))))
    exact Ev.now _

/-! ### a source -/
def toS (x : Tok) : S33 := ⟨x.1, B x.2.1, (x.2.2 : Int)⟩
def resS (r : List Tok × Nat × Nat) : List S33 × Int × Int := (r.1.map toS, (r.2.1 : Int), (r.2.2 : Int))
theorem read_loop {N : Nat} {l : List UInt8} {out : List Tok} {res : List Tok × Nat × Nat} (h : Rd N l out res) : l.count 10 < N → l.length < 100000000 → N < 200000000 →
    (out.length + l.length < 4096 ∨ (res.2.2 = 0 ∧ res.1.length ≤ 4096)) →
    Ev (fun k => lex_Read.l0 k (out.map toS) (B l) ((N - l.count 10 : Nat) : Int)) (resS res) := by
  induction h with
  | bad hs =>
    intro h1 h2 h3 h4
    refine evStep (fun k => by rw [lex_Read.l0]) ?_
    exact Ev.bind (skip_own hs h1 h2 h3) (evNeg (by simp) (Ev.now _))
  | fin hs =>
    intro h1 h2 h3 h4
    refine evStep (fun k => by rw [lex_Read.l0]) ?_
    exact Ev.bind (skip_own hs h1 h2 h3) (evPos rfl (evPos (by rw [B_nil]) (Ev.now _)))
  | @no l r out hs hr hn =>
    intro h1 h2 h3 h4
    have h5 := suf_count (sk_suf hs)
    have h6 := suf_len (sk_suf hs)
    have h7 : 0 < r.length := List.length_pos_iff.2 hr
    refine evStep (fun k => by rw [lex_Read.l0]) ?_
    obtain ⟨y, hy, hE⟩ := next_own (N := N) hn (by omega) (by omega) h3
    refine Ev.bind (skip_own hs h1 h2 h3) (evPos rfl (evNeg (by rw [B_nil]; exact hr) (evNeg (by rw [List.length_map]; rcases h4 with h4 | h4; omega; exact absurd h4.1 (by intro e; cases e)) ?_)))
    refine Ev.bind hE (evNeg (by rw [hy.1]; simp) (evSome ?_))
    rw [hy.2]
    rfl
  | @go l r out k x u res hs hr hn hrd ih =>
    intro h1 h2 h3 h4
    have h5 := suf_count (sk_suf hs)
    have h6 := suf_len (sk_suf hs)
    have h7 : 0 < r.length := List.length_pos_iff.2 hr
    have h8 := nx_suf hn k x u rfl
    have h9 := (rd_ok hrd).2.2.2.1
    rw [List.length_append, List.length_singleton] at h9
    have h10 : out.length < 4096 := by
      rcases h4 with h4 | h4
      · omega
      · have := h9 h4.1
        omega
    refine evStep (fun k => by rw [lex_Read.l0]) ?_
    obtain ⟨y, hy, hE⟩ := next_own (N := N) hn (by omega) (by omega) h3
    refine Ev.bind (skip_own hs h1 h2 h3) (evPos rfl (evNeg (by rw [B_nil]; exact hr) (evNeg (by rw [List.length_map]; omega) ?_)))
    refine Ev.bind hE ?_
    rw [show y = _ from hy]
    refine evPos rfl (evPos (by rw [List.length_map]; omega) ?_)
    have := ih (by omega) (by omega) h3 (by rw [List.length_append, List.length_singleton]; rcases h4 with h4 | h4; exact .inl (by omega); exact .inr h4)
    rw [List.map_append] at this
    exact this
theorem read_own {l : List UInt8} {res : List Tok × Nat × Nat} (h : Rd (1 + l.count 10) l [] res) (hl : l.length < 100000000) (h4 : l.length < 4096 ∨ (res.2.2 = 0 ∧ res.1.length ≤ 4096)) :
    Ev (fun k => lex_Read.f k (B l)) (resS res) := by
  have hc : l.count 10 ≤ l.length := List.count_le_length
  have := read_loop h (by omega) hl (by omega) (by simpa using h4)
  rw [show (1 + l.count 10 - l.count 10 : Nat) = 1 from by omega] at this
  exact this
theorem rd_nice {l : List UInt8} {res : List Tok × Nat × Nat} (h : Rd (1 + l.count 10) l [] res) (hl : l.length < 100000000) : res.1.length ≤ l.length ∧ ∀ x ∈ res.1.map toS, 0 ≤ x.f2 ∧ x.f2 < 1000000000 := by
  obtain ⟨_, _, h3, _, _, _, h7, _⟩ := rd_ok h
  have hc : l.count 10 ≤ l.length := List.count_le_length
  refine ⟨by simpa using h3, fun x hx => ?_⟩
  obtain ⟨y, hy, rfl⟩ := List.mem_map.1 hx
  have := h7 (fun x hx => by cases hx) y hy
  show 0 ≤ ((y.2.2 : Nat) : Int) ∧ ((y.2.2 : Nat) : Int) < 1000000000
  omega
theorem awake : Ev (fun k => postilionlaw44_awake.f k) true := Ev.of (k := 60) (fun k => postilionlaw44_awake.mono k) (by kernel_rfl)

end Go.Proofs.Ytbgndegdegfebaa.PureO
