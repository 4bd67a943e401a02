/- Plain laws of layer 13 (value): what the printed functions come to, by lists of bytes. No program in sight. -/
import Derived.Test.YtbgndegdegfebaaDoorPure0
import Derived.Test.YtbgndegdegfebaaDoorQ
namespace Go.Proofs.YtbgndegdegfebaaDoor.PureA
open Go.RowKit Go.Proofs.YtbgndegdegfebaaDoorW.PrintWords Go.Proofs.YtbgndegdegfebaaDoorW.PrintLast Go.Proofs.YtbgndegdegfebaaDoorW.PrintMore Go.Proofs.YtbgndegdegfebaaDoor.Q Go.Proofs.YtbgndegdegfebaaDoor.Pure0
set_option linter.unusedVariables false
set_option linter.unusedSimpArgs false

theorem rdOf_nat (l : List ByteArray) (i : Nat) (h : i < l.length) : rdOf ByteArray.empty l (i : Int) = l[i] := by
  rw [rdOf, Int.toNat_natCast, List.getD_eq_getElem?_getD, List.getElem?_eq_getElem h]
  rfl
theorem rd_nat (l : List Int) (i : Nat) (h : i < l.length) : rd l (i : Int) = l[i] := by
  rw [rd, Int.toNat_natCast, List.getD_eq_getElem?_getD, List.getElem?_eq_getElem h]
  rfl

/-! ### few -/
theorem few_loop (l : List ByteArray) (d : Nat) : ∀ i : Nat, i + d = 40 → i ≤ l.length → (∀ j (h : j < l.length), j < i → l[j].size ≤ 100) →
    ∃ b, Ev (fun k => postilionref09_Few.l0 k l (i : Int)) b ∧ (b = true → l.length ≤ 40 ∧ ∀ j (h : j < l.length), l[j].size ≤ 100) := by
  induction d with
  | zero =>
    intro i hi hl hs
    obtain rfl : i = 40 := by omega
    refine ⟨decide ((l.length : Int) ≤ 40), ?_, fun hb => ?_⟩
    · by_cases hlt : ((40 : Nat) : Int) < (l.length : Int)
      · exact evStep (fun k => by rw [postilionref09_Few.l0]) (evPos hlt (evStep (fun k => by rw [postilionref09_Few.j1]) (evNeg (by simp) (Ev.now _))))
      · exact evStep (fun k => by rw [postilionref09_Few.l0]) (evNeg hlt (evStep (fun k => by rw [postilionref09_Few.j1]) (evNeg (by simp) (Ev.now _))))
    · have h40 : (l.length : Int) ≤ 40 := of_decide_eq_true hb
      exact ⟨by omega, fun j h => hs j h (by omega)⟩
  | succ d ih =>
    intro i hi hl hs
    by_cases hlt : i < l.length
    · by_cases hsz : l[i].size ≤ 100
      · obtain ⟨b, hb, hp⟩ := ih (i + 1) (by omega) (by omega) (fun j h hj => by
          rcases (by omega : j < i ∨ j = i) with h' | rfl
          · exact hs j h h'
          · exact hsz)
        refine ⟨b, ?_, hp⟩
        refine evStep (fun k => by rw [postilionref09_Few.l0]) (evPos (by omega) (evStep (fun k => by rw [postilionref09_Few.j1]) (evPos (by simp; omega) (evPos (by omega) (evPos (by omega) (evNeg ?_ ?_))))))
        · rw [rdOf_nat l i hlt]; omega
        · rw [wrap_succ i (by omega)]; exact hb
      · refine ⟨false, ?_, fun h => by cases h⟩
        refine evStep (fun k => by rw [postilionref09_Few.l0]) (evPos (by omega) (evStep (fun k => by rw [postilionref09_Few.j1]) (evPos (by simp; omega) (evPos (by omega) (evPos (by omega) (evPos ?_ (Ev.now _)))))))
        rw [rdOf_nat l i hlt]; omega
    · obtain rfl : i = l.length := by omega
      refine ⟨decide ((l.length : Int) ≤ 40), ?_, fun hb => ?_⟩
      · exact evStep (fun k => by rw [postilionref09_Few.l0]) (evNeg (by omega) (evStep (fun k => by rw [postilionref09_Few.j1]) (evNeg (by simp) (Ev.now _))))
      · exact ⟨by omega, fun j h => hs j h h⟩
theorem few_ends (l : List ByteArray) : ∃ b, Ev (fun k => postilionref09_Few.f k l) b ∧ (b = true → l.length ≤ 40 ∧ ∀ j (h : j < l.length), l[j].size ≤ 100) := by
  obtain ⟨b, hb, hp⟩ := few_loop l 40 0 rfl (Nat.zero_le _) (fun j h hj => absurd hj (Nat.not_lt_zero _))
  exact ⟨b, hb, hp⟩

/-! ### numbers -/
def V (s : ByteArray) : Int := bt s 0 * 16777216 + bt s 1 * 65536 + bt s 2 * 256 + bt s 3
theorem fromBig_ref (s : ByteArray) (h : 4 ≤ s.size) : postilionref01_FromBig.f s = some (V s, true) := by
  unfold postilionref01_FromBig.f V
  have h0 := bt_range s 0
  have h1 := bt_range s 1
  have h2 := bt_range s 2
  have h3 := bt_range s 3
  rw [if_neg (by omega), if_pos (by omega), if_pos (by omega), if_pos (by omega), if_pos (by omega)]
  rw [wrap_le (bt s 0) (by omega) (by omega), wrap_le (bt s 1) (by omega) (by omega), wrap_le (bt s 2) (by omega) (by omega), wrap_le (bt s 3) (by omega) (by omega)]
  rw [wrap_le (bt s 0 * 16777216) (by omega) (by omega), wrap_le (bt s 1 * 65536) (by omega) (by omega), wrap_le (bt s 2 * 256) (by omega) (by omega)]
  rw [wrap_le (bt s 0 * 16777216 + bt s 1 * 65536) (by omega) (by omega)]
  rw [wrap_le (bt s 0 * 16777216 + bt s 1 * 65536 + bt s 2 * 256) (by omega) (by omega)]
  rw [wrap_le (bt s 0 * 16777216 + bt s 1 * 65536 + bt s 2 * 256 + bt s 3) (by omega) (by omega)]
theorem fromBig_own (s : ByteArray) (h : 4 ≤ s.size) : num_FromBig.f s = some (V s, true) := by
  unfold num_FromBig.f V
  rw [if_neg (by omega)]
def nums : List UInt8 → Nat → List Int
  | _, 0 => []
  | l, m + 1 => V (B l) :: nums (l.drop 4) m
theorem nums_own (m : Nat) : ∀ (l : List UInt8) (acc : List Int), l.length = 4 * m → acc.length + m ≤ 1000 →
    Ev (fun k => num_FromBigs.l0 k (B l) acc) (acc ++ nums l m, true) := by
  induction m with
  | zero =>
    intro l acc hl _
    obtain rfl : l = [] := List.length_eq_zero_iff.1 (by omega)
    refine evStep (fun k => by rw [num_FromBigs.l0]) (evPos (by rw [toL]) (evSome ?_))
    simp [nums]
  | succ m ih =>
    intro l acc hl ha
    refine evStep (fun k => by rw [num_FromBigs.l0]) (evNeg ?_ (evBindSome (fromBig_own _ (by rw [size_B]; omega)) (evPos ?_ (evPos ?_ ?_))))
    · rw [toL, L_B]
      intro e
      rw [e] at hl
      simp at hl
    · omega
    · rw [size_B]; omega
    · rw [ext_drop]
      have := ih (l.drop 4) (acc ++ [V (B l)]) (by rw [List.length_drop]; omega) (by simp; omega)
      rw [List.append_assoc] at this
      exact this
theorem nums_ref (m : Nat) : ∀ (i : Nat) (l : List UInt8) (acc : List Int), l.length = 4 * i + 4 * m → l.length ≤ 4000 → acc.length + m ≤ 1000 →
    Ev (fun k => postilionref01_FromBigs.l0 k (B l) acc ((4 * i : Nat) : Int)) (acc ++ nums (l.drop (4 * i)) m, true) := by
  induction m with
  | zero =>
    intro i l acc hl _ _
    refine evStep (fun k => by rw [postilionref01_FromBigs.l0]) (evNeg (by rw [size_B]; omega) (evSome ?_))
    simp [nums]
  | succ m ih =>
    intro i l acc hl h4 ha
    have hd : ((4 * i : Nat) : Int).toNat = 4 * i := Int.toNat_natCast _
    refine evStep (fun k => by rw [postilionref01_FromBigs.l0]) (evPos (by rw [size_B]; omega) (evPos (by omega) (evPos (by rw [size_B]; omega) (evBindSome (x := (V (B (l.drop (4 * i))), true)) ?_ (evPos ?_ ?_)))))
    · rw [hd, ext_drop]
      exact fromBig_ref _ (by rw [size_B, List.length_drop]; omega)
    · omega
    · rw [show wrap64 (((4 * i : Nat) : Int) + 4) = ((4 * (i + 1) : Nat) : Int) from by unfold wrap64; omega]
      have := ih (i + 1) l (acc ++ [V (B (l.drop (4 * i)))]) (by omega) h4 (by simp; omega)
      rw [List.append_assoc] at this
      rw [show nums (l.drop (4 * i)) (m + 1) = V (B (l.drop (4 * i))) :: nums (l.drop (4 * (i + 1))) m from by
        rw [nums, List.drop_drop, show 4 * i + 4 = 4 * (i + 1) from by omega]]
      exact this
/-- What a value's numbers are. -/
def asNumbers (l : List UInt8) : List Int × Bool := if l = [] then ([], false) else if l.length % 4 = 0 then (nums l (l.length / 4), true) else ([], false)
theorem asNumbers_own (l : List UInt8) (h : l.length ≤ 4000) : Ev (fun k => value_AsNumbers.f k (B l)) (asNumbers l) := by
  unfold asNumbers
  by_cases h0 : l = []
  · subst h0
    exact evPos (by rw [toL]) (evSome rfl)
  · rw [if_neg h0]
    refine evNeg (by rw [toL, L_B]; exact h0) ?_
    by_cases h4 : l.length % 4 = 0
    · rw [if_pos h4]
      have := nums_own (l.length / 4) l [] (by omega) (by simp; omega)
      refine Ev.bind (evPos (by rw [size_B]; omega) this) (evSome rfl)
    · rw [if_neg h4]
      refine Ev.bind (evNeg (by rw [size_B]; omega) (Ev.now _)) (evSome rfl)
theorem asNumbers_ref (l : List UInt8) (h : l.length ≤ 4000) : Ev (fun k => postilionref13_AsNumbers.f k (B l)) (asNumbers l) := by
  unfold asNumbers
  by_cases h0 : l = []
  · subst h0
    exact evPos (by rw [toL]) (evSome rfl)
  · rw [if_neg h0]
    refine evNeg (by rw [toL, L_B]; exact h0) ?_
    by_cases h4 : l.length % 4 = 0
    · rw [if_pos h4]
      have := nums_ref (l.length / 4) 0 l [] (by omega) h (by simp; omega)
      refine Ev.bind (evPos (by rw [size_B]; omega) this) (evSome rfl)
    · rw [if_neg h4]
      refine Ev.bind (evNeg (by rw [size_B]; omega) (Ev.now _)) (evSome rfl)
def asNumber (s : ByteArray) : Int × Bool := if s.size = 4 then (V s, true) else (0, false)
theorem asNumber_own (s : ByteArray) : value_AsNumber.f s = some (asNumber s) := by
  unfold value_AsNumber.f asNumber
  by_cases h : s.size = 4
  · rw [if_pos (by omega), if_pos h, fromBig_own s (by omega)]; rfl
  · rw [if_neg (by omega), if_neg h]
theorem asNumber_ref (s : ByteArray) : postilionref13_AsNumber.f s = some (asNumber s) := by
  unfold postilionref13_AsNumber.f asNumber
  by_cases h : s.size = 4
  · rw [if_pos (by omega), if_pos h, fromBig_ref s (by omega)]; rfl
  · rw [if_neg (by omega), if_neg h]

/-! ### the same -/
theorem sameInts_loop (l : List Int) (h : l.length < 1000000) (d : Nat) : ∀ i : Nat, i + d = l.length → Ev (fun k => postilionref01_SameInts.l0 k l l (i : Int)) true := by
  induction d with
  | zero =>
    intro i hi
    exact evStep (fun k => by rw [postilionref01_SameInts.l0]) (evNeg (by omega) (evStep (fun k => by rw [postilionref01_SameInts.j1]) (evNeg (by simp) (Ev.now _))))
  | succ d ih =>
    intro i hi
    refine evStep (fun k => by rw [postilionref01_SameInts.l0]) (evPos (by omega) (evStep (fun k => by rw [postilionref01_SameInts.j1]) (evPos (by simp; omega) (evPos (by omega) (evPos (by omega) (evPos (by omega) (evPos rfl ?_)))))))
    rw [wrap_succ i (by omega)]
    exact ih (i + 1) (by omega)
theorem sameInts (l : List Int) (h : l.length < 1000000) : Ev (fun k => postilionref01_SameInts.f k l l) true :=
  evPos rfl (sameInts_loop l h l.length 0 (by omega))
theorem sameTexts_loop (l : List ByteArray) (h : l.length < 1000000) (d : Nat) : ∀ i : Nat, i + d = l.length → Ev (fun k => postilionref01_SameTexts.l0 k l l (i : Int)) true := by
  induction d with
  | zero =>
    intro i hi
    exact evStep (fun k => by rw [postilionref01_SameTexts.l0]) (evNeg (by omega) (evStep (fun k => by rw [postilionref01_SameTexts.j1]) (evNeg (by simp) (Ev.now _))))
  | succ d ih =>
    intro i hi
    refine evStep (fun k => by rw [postilionref01_SameTexts.l0]) (evPos (by omega) (evStep (fun k => by rw [postilionref01_SameTexts.j1]) (evPos (by simp; omega) (evPos (by omega) (evPos (by omega) (evPos (by omega) (evPos rfl ?_)))))))
    rw [wrap_succ i (by omega)]
    exact ih (i + 1) (by omega)
theorem sameTexts (l : List ByteArray) (h : l.length < 1000000) : Ev (fun k => postilionref01_SameTexts.f k l l) true :=
  evPos rfl (sameTexts_loop l h l.length 0 (by omega))
end Go.Proofs.YtbgndegdegfebaaDoor.PureA
