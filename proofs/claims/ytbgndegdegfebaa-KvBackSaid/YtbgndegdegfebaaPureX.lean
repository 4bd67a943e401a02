/- Plain laws of layer 21 (kv): a pair put, keys dropped. No program in sight. -/
import Derived.Test.YtbgndegdegfebaaPureU
import Derived.Test.YtbgndegdegfebaaK12
import Derived.Test.YtbgndegdegfebaaK13
namespace Go.Proofs.Ytbgndegdegfebaa.PureX
open Go.RowKit Go.Proofs.YtbgndegdegfebaaW.PrintWords Go.Proofs.YtbgndegdegfebaaW.PrintLast Go.Proofs.YtbgndegdegfebaaW.PrintMore Go.Proofs.Ytbgndegdegfebaa.K Go.Proofs.Ytbgndegdegfebaa.Pure0 Go.Proofs.Ytbgndegdegfebaa.PureU
set_option linter.unusedVariables false
set_option linter.unusedSimpArgs false

/-! ### the order of keys -/
theorem less_irrefl : ∀ a : List UInt8, Op.bytesLess a a = false
  | [] => rfl
  | a :: x => by
    rw [Op.bytesLess, less_irrefl x]
    simp
theorem less_trans : ∀ {a b c : List UInt8}, Op.bytesLess a b = true → Op.bytesLess b c = true → Op.bytesLess a c = true
  | _, [], _, h, _ => by simp [Op.bytesLess] at h
  | _, _ :: _, [], _, h => by simp [Op.bytesLess] at h
  | [], _ :: _, _ :: _, _, _ => by simp [Op.bytesLess]
  | a :: x, b :: y, c :: z, h1, h2 => by
    simp only [Op.bytesLess, Bool.or_eq_true, decide_eq_true_eq, Bool.and_eq_true, beq_iff_eq] at h1 h2 ⊢
    rcases h1 with h1 | ⟨rfl, h1⟩
    · rcases h2 with h2 | ⟨rfl, h2⟩
      · exact .inl (UInt8.lt_trans h1 h2)
      · exact .inl h1
    · rcases h2 with h2 | ⟨rfl, h2⟩
      · exact .inl h2
      · exact .inr ⟨rfl, less_trans h1 h2⟩
theorem less_tri : ∀ (a b : List UInt8), Op.bytesLess a b = false → a ≠ b → Op.bytesLess b a = true
  | [], [], _, h => absurd rfl h
  | [], _ :: _, h, _ => by simp [Op.bytesLess] at h
  | _ :: _, [], _, _ => by simp [Op.bytesLess]
  | a :: x, b :: y, h, hn => by
    simp only [Op.bytesLess, Bool.or_eq_false_iff, Bool.and_eq_false_iff, decide_eq_false_iff_not] at h
    simp only [Op.bytesLess, Bool.or_eq_true, decide_eq_true_eq, Bool.and_eq_true, beq_iff_eq]
    by_cases e : a = b
    · subst e
      rcases h.2 with h2 | h2
      · simp at h2
      · exact .inr ⟨rfl, less_tri x y h2 (fun e => hn (by rw [e]))⟩
    · refine .inl ?_
      rcases UInt8.lt_or_lt_of_ne e with h1 | h1
      · exact absurd h1 h.1
      · exact h1
theorem cmp_neg : ∀ (a b : List UInt8), (Lib.compareBytes a b < 0 ↔ Op.bytesLess a b = true)
  | [], [] => by simp [Lib.compareBytes, Op.bytesLess]
  | [], _ :: _ => by simp [Lib.compareBytes, Op.bytesLess]
  | _ :: _, [] => by simp [Lib.compareBytes, Op.bytesLess]
  | a :: x, b :: y => by
    have ih := cmp_neg x y
    rw [Lib.compareBytes, Op.bytesLess]
    by_cases h1 : a < b
    · simp [h1]
    · by_cases h2 : b < a
      · have : a ≠ b := fun e => h1 (e ▸ h2)
        simp [h1, h2, this]
      · have e : a = b := UInt8.le_antisymm (UInt8.not_lt.1 h2) (UInt8.not_lt.1 h1)
        subst e
        simp [h1, ih]
theorem cmp_zero : ∀ (a b : List UInt8), (Lib.compareBytes a b = 0 ↔ a = b)
  | [], [] => by simp [Lib.compareBytes]
  | [], _ :: _ => by simp [Lib.compareBytes]
  | _ :: _, [] => by simp [Lib.compareBytes]
  | a :: x, b :: y => by
    have ih := cmp_zero x y
    rw [Lib.compareBytes]
    by_cases h1 : a < b
    · have : a ≠ b := fun e => UInt8.lt_irrefl a (e ▸ h1)
      simp [h1, this]
    · by_cases h2 : b < a
      · have : a ≠ b := fun e => h1 (e ▸ h2)
        simp [h1, h2, this]
      · have e : a = b := UInt8.le_antisymm (UInt8.not_lt.1 h2) (UInt8.not_lt.1 h1)
        subst e
        simp [ih]
/-- x stands ahead of the key. -/
def ah (key : ByteArray) (x : S47) : Bool := Op.bytesLess (L x.f0) (L key)
def Sorted (l : List S47) : Prop := l.Pairwise (fun x y => Op.bytesLess (L x.f0) (L y.f0) = true)
theorem rt_sorted : ∀ (l : List S47) (p : Option S47), rt p l = true → Sorted l ∧ ∀ q, p = some q → ∀ x ∈ l, Op.bytesLess (L q.f0) (L x.f0) = true
  | [], p, h => ⟨.nil, fun q _ x hx => absurd hx (List.not_mem_nil)⟩
  | y :: l, p, h => by
    rw [rt, Bool.and_eq_true, Bool.and_eq_true] at h
    obtain ⟨_, h1, h2⟩ := h
    obtain ⟨hs, hl⟩ := rt_sorted l (some y) h2
    have hy := hl y rfl
    refine ⟨List.pairwise_cons.2 ⟨fun x hx => hy x hx, hs⟩, fun q hq x hx => ?_⟩
    subst hq
    have hqy : Op.bytesLess (L q.f0) (L y.f0) = true := by
      have : Op.bytesLess q.f0.toList y.f0.toList = true := h1
      rwa [toL, toL] at this
    rcases List.mem_cons.1 hx with rfl | hx
    · exact hqy
    · exact less_trans hqy (hy x hx)
theorem R_sorted {l : List S47} (h : R l = true) : Sorted l := (rt_sorted l none h).1

/-! ### a pair put -/
def front (l : List S47) (key : ByteArray) : List S47 := l.takeWhile (ah key)
def back (l : List S47) (key : ByteArray) : List S47 := (l.dropWhile (ah key)).filter (fun x => !(L x.f0 == L key))
def put (l : List S47) (p : S47) : List S47 := front l p.f0 ++ p :: back l p.f0
theorem dropWhile_not {l : List S47} (key : ByteArray) (h : Sorted l) : ∀ x ∈ l.dropWhile (ah key), ah key x = false := by
  induction l with
  | nil => intro x hx; simp at hx
  | cons y l ih =>
    obtain ⟨h1, h2⟩ := List.pairwise_cons.1 h
    by_cases hy : ah key y = true
    · rw [List.dropWhile_cons_of_pos hy]
      exact ih h2
    · rw [List.dropWhile_cons_of_neg hy]
      intro x hx
      rcases List.mem_cons.1 hx with rfl | hx
      · exact Bool.eq_false_iff.2 hy
      · refine Bool.eq_false_iff.2 (fun e => hy ?_)
        exact less_trans (h1 x hx) e
theorem sub_sorted {l m : List S47} (h : Sorted l) (hs : List.Sublist m l) : Sorted m := List.Pairwise.sublist hs h
theorem front_ah {l : List S47} {key : ByteArray} {x : S47} (h : x ∈ front l key) : ah key x = true := by
  unfold front at h
  have := List.all_takeWhile (l := l) (p := ah key)
  exact List.all_eq_true.1 this x h
theorem back_after {l : List S47} {key : ByteArray} (hl : Sorted l) {x : S47} (h : x ∈ back l key) : Op.bytesLess (L key) (L x.f0) = true := by
  obtain ⟨h1, h2⟩ := List.mem_filter.1 h
  exact less_tri _ _ (dropWhile_not key hl x h1) (by simpa using h2)
theorem put_sorted {l : List S47} (p : S47) (h : Sorted l) : Sorted (put l p) := by
  unfold put
  refine List.pairwise_append.2 ⟨sub_sorted h (List.takeWhile_sublist _), List.pairwise_cons.2 ⟨fun x hx => back_after h hx, ?_⟩, ?_⟩
  · exact sub_sorted h ((List.filter_sublist).trans (List.dropWhile_sublist _))
  · intro x hx y hy
    have hxp : Op.bytesLess (L x.f0) (L p.f0) = true := front_ah hx
    rcases List.mem_cons.1 hy with rfl | hy
    · exact hxp
    · exact less_trans hxp (back_after h hy)
theorem put_len (l : List S47) (p : S47) : (put l p).length ≤ l.length + 1 := by
  unfold put front back
  have h1 := congrArg List.length (List.takeWhile_append_dropWhile (p := ah p.f0) (l := l))
  have h2 := List.length_filter_le (fun x : S47 => !(L x.f0 == L p.f0)) (l.dropWhile (ah p.f0))
  simp only [List.length_append, List.length_cons] at h1 ⊢
  omega

/-! ### the search -/
theorem cmp_at (l : List S47) (key : ByteArray) (i : Nat) (h : i < l.length) : kv_Set.cmp l key i = Lib.compareBytes (L l[i].f0) (L key) := by
  unfold kv_Set.cmp
  rw [List.getD_eq_getElem?_getD, List.getElem?_eq_getElem h]
  rfl
theorem ahead_iff {l : List S47} (key : ByteArray) (hl : Sorted l) (i : Nat) (h : i < l.length) : kv_Set.cmp l key i < 0 ↔ i < (front l key).length := by
  rw [cmp_at l key i h, cmp_neg]
  have e := List.takeWhile_append_dropWhile (p := ah key) (l := l)
  have e2 := congrArg List.length e
  rw [List.length_append] at e2
  show ah key l[i] = true ↔ _
  unfold front
  constructor
  · intro ha
    refine Nat.lt_of_not_le (fun hle => ?_)
    have hm : l[i] ∈ l.dropWhile (ah key) := by
      have : l[i] = (l.takeWhile (ah key) ++ l.dropWhile (ah key))[i]'(by rw [List.length_append]; omega) := by
        congr 1
        exact e.symm
      rw [this, List.getElem_append_right hle]
      exact List.getElem_mem _
    rw [dropWhile_not key hl _ hm] at ha
    cases ha
  · intro hi
    have : l[i] = (l.takeWhile (ah key) ++ l.dropWhile (ah key))[i]'(by rw [List.length_append]; omega) := by
      congr 1
      exact e.symm
    rw [this, List.getElem_append_left hi]
    exact front_ah (l := l) (key := key) (List.getElem_mem _)
theorem bs_front {l : List S47} (key : ByteArray) (hl : Sorted l) (k : Nat) : ∀ lo hi : Nat, lo ≤ (front l key).length → (front l key).length ≤ hi → hi ≤ l.length → hi - lo ≤ k → kv_Set.bs l key k lo hi = (front l key).length := by
  induction k with
  | zero => intro lo hi h1 h2 h3 h4; rw [kv_Set.bs]; omega
  | succ k ih =>
    intro lo hi h1 h2 h3 h4
    rw [kv_Set.bs]
    by_cases hlt : lo < hi
    · rw [if_pos hlt]
      have hm := ahead_iff key hl ((lo + hi) / 2) (by omega)
      by_cases hc : kv_Set.cmp l key ((lo + hi) / 2) < 0
      · rw [if_pos hc]
        have := hm.1 hc
        exact ih _ _ (by omega) h2 h3 (by omega)
      · rw [if_neg hc]
        have := mt hm.2 hc
        exact ih _ _ h1 (by omega) (by omega) (by omega)
    · rw [if_neg hlt]; omega
theorem pos_front {l : List S47} (key : ByteArray) (hl : Sorted l) : kv_Set.pos l key = (front l key).length := by
  refine bs_front key hl _ _ _ (Nat.zero_le _) ?_ (Nat.le_refl _) (by omega)
  exact (List.takeWhile_sublist _).length_le
theorem next_put {l : List S47} (p : S47) (hl : Sorted l) : kv_Set.next l p = put l p := by
  have e := List.takeWhile_append_dropWhile (p := ah p.f0) (l := l)
  have hd := dropWhile_not p.f0 hl
  unfold kv_Set.next kv_Set.is put back
  rw [pos_front p.f0 hl]
  have ef : front l p.f0 = l.takeWhile (ah p.f0) := rfl
  cases hb : l.dropWhile (ah p.f0) with
  | nil =>
    rw [hb, List.append_nil] at e
    rw [ef, e, if_neg (by simp)]
    simp
  | cons y t =>
    rw [hb] at e hd
    have hs2 : Sorted (y :: t) := by rw [← hb]; exact sub_sorted hl (List.dropWhile_sublist _)
    obtain ⟨h1, h2⟩ := List.pairwise_cons.1 hs2
    have hy := hd y (List.mem_cons_self ..)
    have hlen : (front l p.f0).length < l.length := by
      rw [ef, ← congrArg List.length e, List.length_append, List.length_cons]; omega
    have hget : l[(front l p.f0).length] = y := by
      have : l[(front l p.f0).length] = (l.takeWhile (ah p.f0) ++ y :: t)[(front l p.f0).length]'(by rw [e]; exact hlen) := by
        congr 1
        exact e.symm
      rw [this, List.getElem_append_right (by rw [ef]; exact Nat.le_refl _)]
      simp [ef]
    have hz : kv_Set.cmp l p.f0 (front l p.f0).length = 0 ↔ L y.f0 = L p.f0 := by rw [cmp_at l _ _ hlen, hget, cmp_zero]
    have et : l.take (front l p.f0).length = front l p.f0 := by
      rw [ef]; conv => lhs; arg 2; rw [← e]
      rw [List.take_left' rfl]
    have edr : l.drop (front l p.f0).length = y :: t := by
      rw [ef]; conv => lhs; arg 2; rw [← e]
      rw [List.drop_left' rfl]
    have ht : ∀ x ∈ t, L y.f0 = L p.f0 ∨ Op.bytesLess (L p.f0) (L y.f0) = true → (!(L x.f0 == L p.f0)) = true := by
      intro x hx ho
      have hyx := h1 x hx
      have hpx : Op.bytesLess (L p.f0) (L x.f0) = true := by
        rcases ho with ho | ho
        · rw [← ho]; exact hyx
        · exact less_trans ho hyx
      rw [Bool.not_eq_true', beq_eq_false_iff_ne]
      intro e3
      rw [e3, less_irrefl] at hpx
      cases hpx
    by_cases hc : L y.f0 = L p.f0
    · rw [if_pos (decide_eq_true ⟨hlen, hz.2 hc⟩), List.filter_cons_of_neg (by simp [hc]), List.filter_eq_self.2 (fun x hx => ht x hx (.inl hc))]
      rw [List.set_eq_take_append_cons_drop, if_pos hlen, et]
      congr 2
      rw [show (front l p.f0).length + 1 = (front l p.f0).length + 1 from rfl, ← List.drop_drop, edr]
      rfl
    · have hpy := less_tri _ _ hy hc
      rw [if_neg (by
        intro h
        exact hc (hz.1 (of_decide_eq_true h).2)), List.filter_cons_of_pos (by rw [Bool.not_eq_true', beq_eq_false_iff_ne]; exact hc), List.filter_eq_self.2 (fun x hx => ht x hx (.inr hpy)), et, edr]

/-! ### pairs put, one after the other -/
def go (out : List S47) : List S47 → List S47 × Int
  | [] => (out, 0)
  | p :: ps => if okB p = true then go (put out p) ps else ([], 1)
theorem kvGo : ∀ (ps out : List S47), Sorted out → kv_Set.go out ps = some (go out ps)
  | [], out, _ => rfl
  | p :: ps, out, hs => by
    rw [kv_Set.go, kvCheck, Option.bind_some, go]
    unfold chk
    by_cases ho : okB p = true
    · rw [if_pos ho, if_pos ho, if_pos rfl, next_put p hs]
      exact kvGo ps _ (put_sorted p hs)
    · rw [if_neg ho, if_neg ho, if_neg (by decide)]
def st (l ps : List S47) : List S47 × Int := if R l = true then go l ps else ([], 6)
theorem kvSet (l ps : List S47) (h : l.length < 1000000) (h2 : ps.length < 1000000) : Ev (fun k => kv_Set.f k l ps) (st l ps) := by
  refine Ev.bind (kvRight l h) ?_
  unfold kv_Set.g st
  by_cases hr : R l = true
  · rw [hr]
    have e := kvGo ps l (R_sorted hr)
    refine evPos rfl (evPos (by omega) ?_)
    rw [e]
    exact evSome (by rw [if_pos rfl])
  · rw [Bool.eq_false_iff.2 hr]
    exact evNeg (by simp) (evSome (by simp))
theorem go_len : ∀ (ps out : List S47), (go out ps).1.length ≤ out.length + ps.length
  | [], out => by simp [go]
  | p :: ps, out => by
    rw [go]
    have h1 := put_len out p
    have h2 := go_len ps (put out p)
    split
    · rw [List.length_cons]; omega
    · simp
theorem st_len (l ps : List S47) : (st l ps).1.length ≤ l.length + ps.length := by
  unfold st
  split
  · exact go_len ps l
  · simp

/-! ### keys dropped -/
def dr (l : List S47) (keys : List ByteArray) : List S47 := l.filter (fun x => !kv_Drop.has keys x)
theorem has_iff (keys : List ByteArray) (x : S47) : kv_Drop.has keys x = true ↔ x.f0 ∈ keys := by
  unfold kv_Drop.has
  rw [decide_eq_true_iff]
  exact Lib.idxOfS_nonneg_iff keys x.f0
theorem kvDrop (l : List S47) (keys : List ByteArray) (h : l.length < 1000000) : kv_Drop.f l keys = some (dr l keys) := by
  unfold kv_Drop.f kv_Drop.keep dr
  rw [if_pos (by omega)]
theorem dr_len (l : List S47) (keys : List ByteArray) : (dr l keys).length ≤ l.length := List.length_filter_le _ _
end Go.Proofs.Ytbgndegdegfebaa.PureX
