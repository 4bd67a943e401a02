/- Plain laws of layer 13 (value): numbers and texts as values, and the plain parts of the statements ValueIs and ValueBack. No program in sight. -/
import Derived.Test.YtbgndegdegfebaaDoorPureB
namespace Go.Proofs.YtbgndegdegfebaaDoor.PureC
open Go.RowKit Go.Proofs.YtbgndegdegfebaaDoorW.PrintWords Go.Proofs.YtbgndegdegfebaaDoorW.PrintLast Go.Proofs.YtbgndegdegfebaaDoorW.PrintMore Go.Proofs.YtbgndegdegfebaaDoor.Q Go.Proofs.YtbgndegdegfebaaDoor.Pure0 Go.Proofs.YtbgndegdegfebaaDoor.PureA Go.Proofs.YtbgndegdegfebaaDoor.PureB
set_option linter.unusedVariables false
set_option linter.unusedSimpArgs false

/-! ### numbers as a value -/
def be (n : Int) : List Int := [n / 16777216 % 256, n / 65536 % 256, n / 256 % 256, n % 256]
def bes (l : List Int) : List Int := (l.map be).flatten
theorem strOfNums_L (x : List Int) : L (strOfNums x) = x.map (fun n => UInt8.ofNat n.toNat) := strOfNums_data x
theorem big_ref (n : Int) : postilionref01_Big.f n = some (strOfNums (be n)) := by
  unfold postilionref01_Big.f be
  rw [show n % 4294967296 / 16777216 = n / 16777216 % 256 from by omega, show n % 4294967296 / 65536 % 256 = n / 65536 % 256 from by omega, show n % 4294967296 / 256 % 256 = n / 256 % 256 from by omega]
theorem bes_snoc (l : List Int) (i : Nat) (h : i < l.length) : bes (l.take (i + 1)) = bes (l.take i) ++ be l[i] := by
  unfold bes
  rw [List.take_succ_eq_append_getElem h, List.map_append, List.flatten_append]
  simp
theorem bes_len (l : List Int) : (bes l).length = 4 * l.length := by
  induction l with
  | nil => rfl
  | cons a l ih =>
    have : bes (a :: l) = be a ++ bes l := by simp [bes]
    rw [this, List.length_append, ih]
    simp [be]
    omega
theorem strApp (a b : List Int) : strOfNums (a ++ b) = strOfNums a ++ strOfNums b := L_inj (by rw [L_app, strOfNums_L, strOfNums_L, strOfNums_L, List.map_append])
theorem strSize (a : List Int) : (strOfNums a).size = a.length := by rw [size_L, strOfNums_L, List.length_map]
theorem numbers_loop (l : List Int) (hl : l.length < 1000) (d : Nat) : ∀ i : Nat, i + d = l.length →
    Ev (fun k => num_Bigs.l0 k (bes (l.take i)) l (l.length : Int) (i : Int)) (strOfNums (bes l)) := by
  induction d with
  | zero =>
    intro i hi
    obtain rfl : i = l.length := by omega
    refine evStep (fun k => by rw [num_Bigs.l0]) ?_
    refine evNeg (by omega) (evSome ?_)
    rw [List.take_length]
  | succ d ih =>
    intro i hi
    have hi2 : i < l.length := by omega
    have hlen := bes_len (l.take i)
    rw [List.length_take] at hlen
    refine evStep (fun k => by rw [num_Bigs.l0]) ?_
    refine evPos (by omega) (evPos (by omega) (evPos (by omega) ?_))
    refine evBindSome rfl ?_
    rw [rd_nat l i hi2]
    show Ev (fun k => if (bes (l.take i)).length + (be l[i]).length < 140737488355328 then num_Bigs.l0 k (bes (l.take i) ++ be l[i]) l (l.length : Int) (wrap64 ((i : Int) + 1)) else none) _
    refine evPos (by simp [be]; omega) ?_
    rw [wrap_succ i (by omega), ← bes_snoc l i hi2]
    exact ih (i + 1) (by omega)
theorem numbers_own (l : List Int) (hl : l.length < 1000) : Ev (fun k => value_Numbers.f k l) (strOfNums (bes l)) :=
  Ev.bind (numbers_loop l hl l.length 0 (by omega)) (Ev.now _)
theorem numbers_refl (l : List Int) (hl : l.length < 1000) (d : Nat) : ∀ i : Nat, i + d = l.length →
    Ev (fun k => postilionref01_Bigs.l0 k l (strOfNums (bes (l.take i))) (i : Int)) (strOfNums (bes l)) := by
  induction d with
  | zero =>
    intro i hi
    obtain rfl : i = l.length := by omega
    refine evStep (fun k => by rw [postilionref01_Bigs.l0]) ?_
    refine evNeg (by omega) (evSome ?_)
    rw [List.take_length]
  | succ d ih =>
    intro i hi
    have hi2 : i < l.length := by omega
    have hlen := bes_len (l.take i)
    rw [List.length_take] at hlen
    refine evStep (fun k => by rw [postilionref01_Bigs.l0]) ?_
    refine evPos (by omega) (evPos (by omega) (evBindSome (big_ref _) ?_))
    rw [rd_nat l i hi2]
    refine evPos (by rw [strSize, strSize, hlen]; simp [be]; omega) ?_
    rw [wrap_succ i (by omega), ← strApp, ← bes_snoc l i hi2]
    exact ih (i + 1) (by omega)
theorem numbers_ref (l : List Int) (hl : l.length < 1000) : Ev (fun k => postilionref01_Bigs.f k l) (strOfNums (bes l)) := numbers_refl l hl l.length 0 (by omega)

/-! ### texts as a value -/
theorem one_pre (s : ByteArray) : value_Texts.one s = pre 0 (L s) ++ [0] := by
  unfold value_Texts.one
  rw [cut_pre]
theorem pre_le (c : UInt8) (l : List UInt8) : (pre c l).length ≤ l.length := by
  rcases parts c l with h | ⟨p, q, rfl, h⟩
  · rw [pre_none h]; exact Nat.le_refl _
  · rw [pre_some q h]; simp
theorem all_len (l : List ByteArray) (hs : ∀ j (h : j < l.length), l[j].size ≤ 100) : (value_Texts.all l).length ≤ 101 * l.length := by
  induction l with
  | nil => simp [value_Texts.all]
  | cons a l ih =>
    have h1 : value_Texts.all (a :: l) = value_Texts.one a ++ value_Texts.all l := by simp [value_Texts.all]
    have h2 := ih (fun j h => by have := hs (j + 1) (by simp; omega); simpa using this)
    have h3 : a.size ≤ 100 := by have := hs 0 (by simp); simpa using this
    have h4 := pre_le 0 (L a)
    rw [← size_L] at h4
    rw [h1, one_pre]
    simp
    omega
theorem texts_own (l : List ByteArray) (hl : l.length ≤ 40) (hs : ∀ j (h : j < l.length), l[j].size ≤ 100) : value_Texts.f l = some (B (value_Texts.all l)) := by
  unfold value_Texts.f
  have := all_len l hs
  have h1 : ∀ s ∈ l, s.size < 4294967280 := fun s h => by
    obtain ⟨j, hj, rfl⟩ := List.getElem_of_mem h
    have := hs j hj
    omega
  rw [if_pos ⟨by omega, h1, by omega⟩]
theorem texts_loop (l : List ByteArray) (hl : l.length ≤ 40) (hs : ∀ j (h : j < l.length), l[j].size ≤ 100) (d : Nat) : ∀ i : Nat, i + d = l.length →
    Ev (fun k => postilionref13_Texts.l0 k l (B (value_Texts.all (l.take i))) (i : Int)) (B (value_Texts.all l)) := by
  induction d with
  | zero =>
    intro i hi
    obtain rfl : i = l.length := by omega
    refine evStep (fun k => by rw [postilionref13_Texts.l0]) ?_
    refine evNeg (by omega) (evSome ?_)
    rw [List.take_length]
  | succ d ih =>
    intro i hi
    have hi2 : i < l.length := by omega
    have h1 := all_len l hs
    have h2 := value_Texts.pre l i
    have h3 := pre_le 0 (L l[i])
    rw [← size_L] at h3
    have h4 := hs i hi2
    have hc := cut (L l[i]) (by rw [← size_L]; omega)
    rw [B_L] at hc
    have e1 : B (value_Texts.all (l.take i)) ++ B (pre 0 (L l[i])) = B (value_Texts.all (l.take i) ++ pre 0 (L l[i])) := B_app _ _
    refine evStep (fun k => by rw [postilionref13_Texts.l0]) ?_
    refine evPos (by omega) (evPos (by omega) ?_)
    rw [rdOf_nat l i hi2]
    refine Ev.bind hc ?_
    refine evPos (by rw [size_B, size_B]; omega) ?_
    rw [e1]
    refine evPos (by rw [size_B, List.length_append]; omega) ?_
    rw [wrap_succ i (by omega)]
    have e2 : B (value_Texts.all (l.take i) ++ pre 0 (L l[i])) ++ (⟨#[0]⟩ : ByteArray) = B (value_Texts.all (l.take (i + 1))) := by
      rw [value_Texts.snoc l i hi2, one_pre, ← List.append_assoc]
      exact B_app _ [0]
    rw [e2]
    exact ih (i + 1) (by omega)
theorem texts_ref (l : List ByteArray) (hl : l.length ≤ 40) (hs : ∀ j (h : j < l.length), l[j].size ≤ 100) : Ev (fun k => postilionref13_Texts.f k l) (B (value_Texts.all l)) := texts_loop l hl hs l.length 0 (by omega)

/-! ### awake -/
theorem awake : Ev (fun k => postilionlaw13_awake.f k) true := Ev.of (k := 20) (fun k => postilionlaw13_awake.mono k) (by kernel_rfl)

theorem nums_len (m : Nat) : ∀ y, (PureA.nums y m).length = m := by
  induction m with
  | zero => intro y; rfl
  | succ m ih => intro y; simp [PureA.nums, ih]
theorem ValueIs (l : List Int) (t : List ByteArray) (v : ByteArray) : ∃ k, postilionlaw13_ValueIs.f k l t v = some true := by
  refine Ev.rounds ?_
  have asleep : ∀ x, Ev (fun k => postilionlaw13_ValueIs.j0 k l t x true) true := fun x => by
    refine evStep (fun k => by rw [postilionlaw13_ValueIs.j0]) ?_
    exact evPos rfl (Ev.bind awake (Ev.now _))
  by_cases h1 : (l.length : Int) > 40
  · exact evPos h1 (asleep v)
  refine evNeg h1 ?_
  obtain ⟨b, hb, hp⟩ := few_ends t
  refine Ev.bind hb ?_
  cases b
  · exact evNeg (by simp) (asleep v)
  obtain ⟨ht, hs⟩ := hp rfl
  refine evPos rfl ?_
  by_cases h2 : (v.size : Int) > 200
  · rw [decide_eq_true h2]
    exact asleep v
  rw [decide_eq_false h2]
  have hv : (L v).length ≤ 200 := by rw [← size_L]; omega
  obtain ⟨x, rfl⟩ : ∃ x, v = B x := ⟨L v, (B_L v).symm⟩
  rw [L_B] at hv
  have hx : (asNumbers x).1.length ≤ 1000 := by
    have := nums_len
    unfold asNumbers
    split
    · simp
    · split
      · simp [this]; omega
      · simp
  have hy := asTexts_len x
  refine evStep (fun k => by rw [postilionlaw13_ValueIs.j0]) ?_
  refine evNeg (by simp) ?_
  refine Ev.bind (asNumbers_own x (by omega)) ?_
  refine Ev.bind (asNumbers_ref x (by omega)) ?_
  refine evBindSome (asNumber_own _) ?_
  refine evBindSome (asNumber_ref _) ?_
  refine Ev.bind (sameInts _ (by omega)) ?_
  refine evPos rfl (evNeg (by simp) (evPos rfl ?_))
  rw [bne_self_eq_false]
  refine evStep (fun k => by rw [postilionlaw13_ValueIs.j1]) ?_
  refine evNeg (by simp) ?_
  refine evBindSome (asTexts_own x (by omega)) ?_
  refine Ev.bind (asTexts_ref x (by omega)) ?_
  refine evBindSome (asText_own x (by omega)) ?_
  refine Ev.bind (asText_ref x (by omega)) ?_
  refine Ev.bind (sameTexts _ (by omega)) ?_
  refine evPos rfl (evPos (by simp) (evPos rfl (evPos (by simp) ?_)))
  refine Ev.bind (numbers_own l (by omega)) ?_
  refine Ev.bind (numbers_ref l (by omega)) ?_
  refine evPos rfl ?_
  refine evBindSome (texts_own t ht hs) ?_
  refine Ev.bind (texts_ref t ht hs) ?_
  refine evPos rfl ?_
  exact Ev.bind awake (Ev.now _)

/-! ### what is told is read as it was -/
theorem V_be (n : Int) (r : List UInt8) : V (B ((be n).map (fun n => UInt8.ofNat n.toNat) ++ r)) = n % 4294967296 := by
  unfold V
  rw [show (0 : Int) = ((0 : Nat) : Int) from rfl, show (1 : Int) = ((1 : Nat) : Int) from rfl, show (2 : Int) = ((2 : Nat) : Int) from rfl, show (3 : Int) = ((3 : Nat) : Int) from rfl]
  rw [bt_B, bt_B, bt_B, bt_B]
  simp only [be, List.map_cons, List.map_nil, List.cons_append, List.nil_append, List.getD_cons_zero, List.getD_cons_succ]
  have h : ∀ m : Int, ((UInt8.ofNat (m % 256).toNat).toNat : Int) = m % 256 := by
    intro m
    have h0 : 0 ≤ m % 256 := by omega
    have h1 : m % 256 < 256 := by omega
    rw [UInt8.toNat_ofNat']
    omega
  rw [h, h, h, h]
  omega
theorem nums_bes (l : List Int) : PureA.nums (L (strOfNums (bes l))) l.length = l.map (· % 4294967296) := by
  induction l with
  | nil => rfl
  | cons a l ih =>
    have e : L (strOfNums (bes (a :: l))) = (be a).map (fun n => UInt8.ofNat n.toNat) ++ L (strOfNums (bes l)) := by
      have : bes (a :: l) = be a ++ bes l := by simp [bes]
      rw [this, strApp, L_app, strOfNums_L (be a)]
    rw [List.length_cons, PureA.nums, e, V_be, List.map_cons]
    rw [List.drop_left' (by simp [be]), ih]
theorem back_numbers (l : List Int) : asNumbers (L (strOfNums (bes l))) = if l = [] then ([], false) else (l.map (· % 4294967296), true) := by
  have hlen : (L (strOfNums (bes l))).length = 4 * l.length := by rw [strOfNums_L, List.length_map, bes_len]
  unfold asNumbers
  cases l with
  | nil => rfl
  | cons a l =>
    have h0 : L (strOfNums (bes (a :: l))) ≠ [] := fun e => by rw [e] at hlen; simp at hlen
    rw [if_neg h0, hlen, if_pos (Nat.mul_mod_right 4 _), Nat.mul_div_cancel_left _ (by omega), nums_bes, if_neg (by simp)]
theorem all_texts (t : List ByteArray) (h : ∀ s ∈ t, (0 : UInt8) ∉ L s) (hne : t ≠ []) : asTexts (value_Texts.all t) = (t, true) := by
  have key : ∀ t : List ByteArray, (∀ s ∈ t, (0 : UInt8) ∉ L s) → t ≠ [] → ∃ p, value_Texts.all t = p ++ [0] ∧ (spl 0 p).map B = t := by
    intro t
    induction t with
    | nil => intro _ h; exact absurd rfl h
    | cons a t ih =>
      intro h _
      have h0 := h a (by simp)
      have e : value_Texts.all (a :: t) = L a ++ [0] ++ value_Texts.all t := by simp [value_Texts.all, one_pre, pre_none h0]
      by_cases ht : t = []
      · subst ht
        refine ⟨L a, by rw [e]; simp [value_Texts.all], ?_⟩
        rw [spl_none h0]
        simp [B_L]
      · obtain ⟨p, hp, hq⟩ := ih (fun s hs => h s (by simp [hs])) ht
        refine ⟨L a ++ 0 :: p, by rw [e, hp]; simp, ?_⟩
        rw [spl_some p h0, List.map_cons, hq, B_L]
  obtain ⟨p, hp, hq⟩ := key t h hne
  rw [hp, asTexts_snoc, if_pos rfl, hq]
theorem scan (t : List ByteArray) (hl : t.length ≤ 40) (hs : ∀ j (h : j < t.length), t[j].size ≤ 100) (i : Nat) (hi : i < t.length) (r : Bool)
    (next : (0 : UInt8) ∉ L t[i] → Ev (fun k => postilionlaw13_ValueBack.l1 k t ((i + 1 : Nat) : Int)) true) (d : Nat) : ∀ j : Nat, j + d = (L t[i]).length → (∀ q (h : q < (L t[i]).length), q < j → (L t[i])[q] ≠ 0) →
    Ev (fun k => postilionlaw13_ValueBack.l2 k t (i : Int) (j : Int)) true := by
  have hsz := hs i hi
  rw [size_L] at hsz
  induction d with
  | zero =>
    intro j hj hn
    refine evStep (fun k => by rw [postilionlaw13_ValueBack.l2]) ?_
    refine evPos (by omega) (evPos (by omega) ?_)
    rw [rdOf_nat t i hi]
    refine evNeg (by rw [size_L]; omega) ?_
    rw [wrap_succ i (by omega)]
    refine next (fun hm => ?_)
    obtain ⟨q, hq, e⟩ := List.getElem_of_mem hm
    exact hn q hq (by omega) e
  | succ d ih =>
    intro j hj hn
    have hj2 : j < (L t[i]).length := by omega
    refine evStep (fun k => by rw [postilionlaw13_ValueBack.l2]) ?_
    refine evPos (by omega) (evPos (by omega) ?_)
    rw [rdOf_nat t i hi]
    refine evPos (by rw [size_L]; omega) (evPos (by omega) ?_)
    rw [bt_get _ _ hj2]
    by_cases hz : (L t[i])[j] = 0
    · exact evPos (by rw [hz]; rfl) (Ev.bind awake (Ev.now _))
    · refine evNeg (fun e => hz ((u8_nat _ 0).1 (by rw [e]; rfl))) ?_
      rw [wrap_succ j (by omega)]
      refine ih (j + 1) (by omega) (fun q h hq => ?_)
      rcases (by omega : q < j ∨ q = j) with h' | rfl
      · exact hn q h h'
      · exact hz
theorem back_texts (t : List ByteArray) (hl : t.length ≤ 40) (hs : ∀ j (h : j < t.length), t[j].size ≤ 100) (d : Nat) : ∀ i : Nat, i + d = t.length → (∀ j (h : j < t.length), j < i → (0 : UInt8) ∉ L t[j]) →
    Ev (fun k => postilionlaw13_ValueBack.l1 k t (i : Int)) true := by
  induction d with
  | zero =>
    intro i hi hn
    have hz : ∀ s ∈ t, (0 : UInt8) ∉ L s := fun s h => by
      obtain ⟨j, hj, rfl⟩ := List.getElem_of_mem h
      exact hn j hj (by omega)
    have hlen := all_len t hs
    refine evStep (fun k => by rw [postilionlaw13_ValueBack.l1]) ?_
    refine evNeg (by omega) ?_
    refine evBindSome (texts_own t hl hs) ?_
    refine evBindSome (asTexts_own _ (by omega)) ?_
    by_cases ht : t = []
    · subst ht
      refine evPos (by rfl) ?_
      exact Ev.bind (sameTexts [] (by simp)) (evPos rfl (Ev.bind awake (Ev.now _)))
    · have hp := List.length_pos_iff.2 ht
      rw [all_texts t hz ht]
      refine evPos ?_ ?_
      · rw [decide_eq_true (by omega)]; rfl
      · exact Ev.bind (sameTexts t (by omega)) (evPos rfl (Ev.bind awake (Ev.now _)))
  | succ d ih =>
    intro i hi hn
    have hi2 : i < t.length := by omega
    refine evStep (fun k => by rw [postilionlaw13_ValueBack.l1]) ?_
    refine evPos (by omega) ?_
    refine scan t hl hs i hi2 true (fun hm => ih (i + 1) (by omega) (fun j h hj => ?_)) (L t[i]).length 0 (by omega) (fun q h hq => absurd hq (by omega))
    rcases (by omega : j < i ∨ j = i) with h' | rfl
    · exact hn j h h'
    · exact hm
theorem back_loop (l : List Int) (t : List ByteArray) (hl : l.length ≤ 40) (ht : t.length ≤ 40) (hs : ∀ j (h : j < t.length), t[j].size ≤ 100) (d : Nat) : ∀ i : Nat, i + d = l.length →
    Ev (fun k => postilionlaw13_ValueBack.l0 k l t (l.map (· % 4294967296)) (i : Int)) true := by
  induction d with
  | zero =>
    intro i hi
    refine evStep (fun k => by rw [postilionlaw13_ValueBack.l0]) ?_
    refine evNeg (by omega) ?_
    refine evStep (fun k => by rw [postilionlaw13_ValueBack.j3]) ?_
    exact evNeg (by simp) (back_texts t ht hs t.length 0 (by omega) (fun j h hj => absurd hj (by omega)))
  | succ d ih =>
    intro i hi
    have hi2 : i < l.length := by omega
    refine evStep (fun k => by rw [postilionlaw13_ValueBack.l0]) ?_
    refine evPos (by omega) ?_
    refine evStep (fun k => by rw [postilionlaw13_ValueBack.j3]) ?_
    refine evPos (by simp; omega) (evPos (by omega) (evPos (by simp; omega) (evPos (by omega) ?_)))
    rw [rd_nat l i hi2, rd_nat _ i (by simpa using hi2), List.getElem_map]
    refine evPos rfl ?_
    rw [wrap_succ i (by omega)]
    exact ih (i + 1) (by omega)
theorem ValueBack (l : List Int) (t : List ByteArray) : ∃ k, postilionlaw13_ValueBack.f k l t = some true := by
  refine Ev.rounds ?_
  have asleep : Ev (fun k => postilionlaw13_ValueBack.j0 k l t true) true := by
    refine evStep (fun k => by rw [postilionlaw13_ValueBack.j0]) ?_
    exact evPos rfl (Ev.bind awake (Ev.now _))
  by_cases h1 : (l.length : Int) > 40
  · exact evPos h1 asleep
  refine evNeg h1 ?_
  obtain ⟨b, hb, hp⟩ := few_ends t
  refine Ev.bind hb ?_
  cases b
  · exact asleep
  obtain ⟨ht, hs⟩ := hp rfl
  have hlen : (L (strOfNums (bes l))).length = 4 * l.length := by rw [strOfNums_L, List.length_map, bes_len]
  refine evStep (fun k => by rw [postilionlaw13_ValueBack.j0]) ?_
  refine evNeg (by simp) ?_
  refine Ev.bind (numbers_own l (by omega)) ?_
  have hn := asNumbers_own (L (strOfNums (bes l))) (by omega)
  rw [B_L, back_numbers] at hn
  have fin := back_loop l t (by omega) ht hs l.length 0 (by omega)
  by_cases h0 : l = []
  · subst h0
    refine Ev.bind hn ?_
    refine evNeg (by decide) ?_
    refine evStep (fun k => by rw [postilionlaw13_ValueBack.j1]) ?_
    exact evNeg (by decide) fin
  · rw [if_neg h0] at hn
    have hpos := List.length_pos_iff.2 h0
    refine Ev.bind hn ?_
    refine evNeg ?_ ?_
    · rw [decide_eq_true (by omega)]; simp
    · refine evStep (fun k => by rw [postilionlaw13_ValueBack.j1]) ?_
      refine evNeg ?_ fin
      rw [List.length_map]; simp
end Go.Proofs.YtbgndegdegfebaaDoor.PureC
