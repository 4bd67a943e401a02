/- Plain words of layer 44 (lex): a word, the same lexemes, few lexemes, what is put. No program in sight. -/
import Derived.Test.YtbgndegdegfebaaPureO
namespace Go.Proofs.Ytbgndegdegfebaa.PureS
open Go.RowKit Go.Proofs.YtbgndegdegfebaaW.PrintWords Go.Proofs.YtbgndegdegfebaaW.PrintLast Go.Proofs.YtbgndegdegfebaaW.PrintMore Go.Proofs.Ytbgndegdegfebaa.Q Go.Proofs.Ytbgndegdegfebaa.Pure0 Go.Proofs.Ytbgndegdegfebaa.PureM Go.Proofs.Ytbgndegdegfebaa.PureN Go.Proofs.Ytbgndegdegfebaa.PureL Go.Proofs.Ytbgndegdegfebaa.PureO
set_option linter.unusedVariables false
set_option linter.unusedSimpArgs false

theorem plain_allR : (List.range 256).all (fun n => postilionref44_plain.f 12 (n : Int) == some (plainN n)) = true := by kernel_rfl
theorem plain_ref (x : UInt8) : Ev (fun k => postilionref44_plain.f k (x.toNat : Int)) (plainU x) := by
  have h := List.all_eq_true.1 plain_allR x.toNat (List.mem_range.2 x.toNat_lt)
  exact Ev.of (k := 12) (fun k => postilionref44_plain.mono _ k) (eq_of_beq h)
theorem word_loop (t : List UInt8) (h : t.length < 100000000) (d : Nat) : ∀ i : Nat, i + d = t.length →
    Ev (fun k => postilionref44_Word.l0 k (B t) (i : Int)) (decide (t ≠ [] ∧ ((t.drop i).takeWhile plainU).length = (t.drop i).length)) := by
  induction d with
  | zero =>
    intro i hi
    refine evStep (fun k => by rw [postilionref44_Word.l0]) ?_
    refine evNeg (by rw [size_B]; omega) (evSome ?_)
    rw [List.drop_eq_nil_of_le (by omega), toL, L_B]
    by_cases h0 : t = []
    · simp [h0]
    · simp [h0]
  | succ d ih =>
    intro i hi
    have hi2 : i < t.length := by omega
    have hd : t.drop i = t[i] :: t.drop (i + 1) := List.drop_eq_getElem_cons hi2
    have hb : bt (B t) (i : Int) = ((t[i]).toNat : Int) := bt_get (B t) i hi2
    refine evStep (fun k => by rw [postilionref44_Word.l0]) ?_
    refine evPos (by rw [size_B]; omega) (evPos (by omega) ?_)
    rw [hb, hd]
    refine Ev.bind (plain_ref t[i]) ?_
    by_cases hp : plainU t[i] = true
    · refine evPos hp ?_
      rw [wrap_succ i (by omega), List.takeWhile_cons_of_pos hp, List.length_cons, List.length_cons]
      have := ih (i + 1) (by omega)
      simp only [Nat.add_right_cancel_iff]
      exact this
    · refine evNeg hp (evSome ?_)
      rw [List.takeWhile_cons_of_neg hp]
      simp
      intro _
      omega
theorem word_ref (t : List UInt8) (h : t.length < 100000000) : Ev (fun k => postilionref44_Word.f k (B t)) (wordB t) := by
  have := word_loop t h t.length 0 (by omega)
  rw [List.drop_zero] at this
  exact this
def sameB (d : Int) (x y : S33) : Bool := decide (x.f0 = y.f0 ∧ x.f1 = y.f1 ∧ (0 ≤ d → x.f2 + d = y.f2))
theorem same_loop (d : Int) (a b : List S33) (hl : a.length = b.length) (ha : a.length < 100000000) (hd : -1 ≤ d ∧ d < 1000000000) (hln : ∀ x ∈ a, 0 ≤ x.f2 ∧ x.f2 < 1000000000)
    (hall : ∀ i (h : i < a.length), sameB d a[i] (b[i]'(by omega)) = true) (n : Nat) : ∀ i : Nat, i + n = a.length →
    Ev (fun k => postilionref44_Same.l0 k a b d (i : Int)) true := by
  induction n with
  | zero =>
    intro i hi
    refine evStep (fun k => by rw [postilionref44_Same.l0]) ?_
    refine evNeg (by omega) ?_
    refine evStep (fun k => by rw [postilionref44_Same.j1]) ?_
    exact evNeg (by simp) (Ev.now _)
  | succ n ih =>
    intro i hi
    have h1 := hall i (by omega)
    unfold sameB at h1
    rw [decide_eq_true_eq] at h1
    have h2 := hln a[i] (List.getElem_mem _)
    refine evStep (fun k => by rw [postilionref44_Same.l0]) ?_
    refine evPos (by omega) ?_
    rw [decide_eq_true (show (i : Int) < (b.length : Int) by omega)]
    refine evStep (fun k => by rw [postilionref44_Same.j1]) ?_
    rw [rd33_nat a i (by omega), rd33_nat b i (by omega)]
    refine evPos rfl (evPos (by omega) (evPos (by omega) (evPos (by omega) (evPos h1.1 (evPos (by rw [h1.2.1]) ?_)))))
    have go := ih (i + 1) (by omega)
    rw [← wrap_succ i (by omega)] at go
    by_cases h0 : 0 ≤ d
    · refine evPos h0 (evPos ?_ go)
      rw [wrap_le _ (by omega) (by omega)]
      exact h1.2.2 h0
    · exact evNeg (by omega) go
theorem same_true (d : Int) (a b : List S33) (hl : a.length = b.length) (ha : a.length < 100000000) (hd : -1 ≤ d ∧ d < 1000000000) (hln : ∀ x ∈ a, 0 ≤ x.f2 ∧ x.f2 < 1000000000)
    (hall : ∀ i (h : i < a.length), sameB d a[i] (b[i]'(by omega)) = true) : Ev (fun k => postilionref44_Same.f k a b d) true := by
  refine evPos (by omega) ?_
  exact same_loop d a b hl ha hd hln hall a.length 0 (by omega)
theorem few_loop (l : List S33) (d : Nat) : ∀ i : Nat, i + d = 60 → i ≤ l.length → (∀ j (h : j < l.length), j < i → (l[j].f1).size ≤ 100) →
    ∃ b, Ev (fun k => postilionref44_Few.l0 k l (i : Int)) b ∧ (b = true → l.length ≤ 60 ∧ ∀ j (h : j < l.length), (l[j].f1).size ≤ 100) := by
  induction d with
  | zero =>
    intro i hi hl hs
    obtain rfl : i = 60 := by omega
    refine ⟨decide ((l.length : Int) ≤ 60), ?_, fun hb => ?_⟩
    · by_cases hlt : ((60 : Nat) : Int) < (l.length : Int)
      · exact evStep (fun k => by rw [postilionref44_Few.l0]) (evPos hlt (evStep (fun k => by rw [postilionref44_Few.j1]) (evNeg (by simp) (Ev.now _))))
      · exact evStep (fun k => by rw [postilionref44_Few.l0]) (evNeg hlt (evStep (fun k => by rw [postilionref44_Few.j1]) (evNeg (by simp) (Ev.now _))))
    · have h40 : (l.length : Int) ≤ 60 := of_decide_eq_true hb
      exact ⟨by omega, fun j h => hs j h (by omega)⟩
  | succ d ih =>
    intro i hi hl hs
    by_cases hlt : i < l.length
    · by_cases hsz : (l[i].f1).size ≤ 100
      · obtain ⟨b, hb, hp⟩ := ih (i + 1) (by omega) (by omega) (fun j h hj => by
          rcases (by omega : j < i ∨ j = i) with h' | rfl
          · exact hs j h h'
          · exact hsz)
        refine ⟨b, ?_, hp⟩
        refine evStep (fun k => by rw [postilionref44_Few.l0]) (evPos (by omega) (evStep (fun k => by rw [postilionref44_Few.j1]) (evPos (by simp; omega) (evPos (by omega) (evPos (by omega) (evNeg ?_ ?_))))))
        · rw [rd33_nat l i hlt]; omega
        · rw [wrap_succ i (by omega)]; exact hb
      · refine ⟨false, ?_, fun h => by cases h⟩
        refine evStep (fun k => by rw [postilionref44_Few.l0]) (evPos (by omega) (evStep (fun k => by rw [postilionref44_Few.j1]) (evPos (by simp; omega) (evPos (by omega) (evPos (by omega) (evPos ?_ (Ev.now _)))))))
        rw [rd33_nat l i hlt]; omega
    · obtain rfl : i = l.length := by omega
      refine ⟨decide ((l.length : Int) ≤ 60), ?_, fun hb => ?_⟩
      · exact evStep (fun k => by rw [postilionref44_Few.l0]) (evNeg (by omega) (evStep (fun k => by rw [postilionref44_Few.j1]) (evNeg (by simp) (Ev.now _))))
      · exact ⟨by omega, fun j h => hs j h h⟩
theorem few_ends (l : List S33) : ∃ b, Ev (fun k => postilionref44_Few.f k l) b ∧ (b = true → l.length ≤ 60 ∧ ∀ j (h : j < l.length), (l[j].f1).size ≤ 100) := by
  obtain ⟨b, hb, hp⟩ := few_loop l 60 0 rfl (Nat.zero_le _) (fun j h hj => absurd hj (Nat.not_lt_zero _))
  exact ⟨b, hb, hp⟩

/-! ### what is put -/
def tk (x : S33) : Tok := (x.f0, L x.f1, 0)
theorem map_pc (l : List S33) : (l.map piece).map L = (l.map tk).map pc := by
  rw [List.map_map, List.map_map]
  rfl
theorem piece_len (x : S33) (M : Nat) (h : x.f1.size ≤ M) : (L (piece x)).length ≤ 4 * M + 2 := by
  have := pt_len x.f0 (L x.f1)
  rw [size_L] at h
  show ((pt x.f0 (L x.f1)).1).length ≤ _
  omega
theorem put_join (l : List S33) (M : Nat) (hs : ∀ j (h : j < l.length), (l[j].f1).size ≤ M) : (Lib.join ((l.map piece).map L) [32]).length ≤ l.length * (4 * M + 2 + 1) := by
  have := join_len (4 * M + 2) ((l.map piece).map L) (by
    intro x hx
    obtain ⟨y, hy, rfl⟩ := List.mem_map.1 hx
    obtain ⟨z, hz, rfl⟩ := List.mem_map.1 hy
    obtain ⟨j, hj, rfl⟩ := List.getElem_of_mem hz
    exact piece_len _ M (hs j hj))
  rw [List.length_map, List.length_map] at this
  exact this
theorem put_any (l : List S33) (M : Nat) (hl : l.length ≤ 4096) (hM : M ≤ 1024) (hs : ∀ j (h : j < l.length), (l[j].f1).size ≤ M) : Ev (fun k => lex_Put.f k l) (putsR l l) := by
  have h1 := put_join l M hs
  have h2 : l.length * (4 * M + 2 + 1) ≤ 4096 * 4099 := Nat.mul_le_mul hl (by omega)
  exact Put_own l hl (fun j h => by have := hs j h; rw [size_L] at this; omega) (by omega)
theorem okT_iff (x : S33) : ok1 x = true ↔ okT (tk x) := Iff.rfl
/-- What is put is read as it was, on line 1. -/
theorem read_put (l : List S33) (M : Nat) (hl : l.length ≤ 4096) (hM : M ≤ 1024) (hs : ∀ j (h : j < l.length), (l[j].f1).size ≤ M) (hok : l.all ok1 = true) :
    Ev (fun k => lex_Read.f k (B (Lib.join ((l.map piece).map L) [32]))) (((l.map tk).map (on 1)).map toS, 0, 0) := by
  have h1 := put_join l M hs
  have h2 : l.length * (4 * M + 2 + 1) ≤ 4096 * 4099 := Nat.mul_le_mul hl (by omega)
  have hall : ∀ x ∈ l.map tk, okT x := by
    intro x hx
    obtain ⟨y, hy, rfl⟩ := List.mem_map.1 hx
    exact List.all_eq_true.1 hok y hy
  rw [map_pc] at h1 ⊢
  have hc := src_count (l.map tk) hall
  have hr := rd_src 1 (l.map tk) hall
  have : Rd (1 + (src (l.map tk)).count 10) (src (l.map tk)) [] ((l.map tk).map (on 1), 0, 0) := by
    rw [hc]
    exact hr
  refine read_own this ?_ (.inr ⟨rfl, ?_⟩)
  · show (Lib.join ((l.map tk).map pc) [32]).length < _
    omega
  · show ((l.map tk).map (on 1)).length ≤ 4096
    rw [List.length_map, List.length_map]
    exact hl
theorem ext_one (s : List UInt8) (c : UInt8) (t : List UInt8) (i : Nat) (h : s.drop i = c :: t) : (B s).extract i (i + 1) = B [c] :=
  L_inj (by rw [L_ext, L_B, h, show i + 1 - i = 1 from by omega]; rfl)
end Go.Proofs.Ytbgndegdegfebaa.PureS
