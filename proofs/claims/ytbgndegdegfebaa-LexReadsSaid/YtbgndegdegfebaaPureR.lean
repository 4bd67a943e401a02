/- Plain laws of layer 44 (lex): what the document's reader answers; the law LexReads. No program in sight. -/
import Derived.Test.YtbgndegdegfebaaPureP
import Derived.Test.YtbgndegdegfebaaQ23
namespace Go.Proofs.Ytbgndegdegfebaa.PureR
open Go.RowKit Go.Proofs.YtbgndegdegfebaaW.PrintWords Go.Proofs.YtbgndegdegfebaaW.PrintLast Go.Proofs.YtbgndegdegfebaaW.PrintMore Go.Proofs.Ytbgndegdegfebaa.Q Go.Proofs.Ytbgndegdegfebaa.Pure0 Go.Proofs.Ytbgndegdegfebaa.PureM Go.Proofs.Ytbgndegdegfebaa.PureN Go.Proofs.Ytbgndegdegfebaa.PureL Go.Proofs.Ytbgndegdegfebaa.PureO Go.Proofs.Ytbgndegdegfebaa.PureP
set_option linter.unusedVariables false
set_option linter.unusedSimpArgs false

theorem plain_allR : (List.range 256).all (fun n => postilionref44_plain.f 12 (n : Int) == some (plainN n)) = true := by kernel_rfl
theorem plain_ref (x : UInt8) : Ev (fun k => postilionref44_plain.f k (x.toNat : Int)) (plainU x) := by
  have h := List.all_eq_true.1 plain_allR x.toNat (List.mem_range.2 x.toNat_lt)
  exact Ev.of (k := 12) (fun k => postilionref44_plain.mono _ k) (eq_of_beq h)
theorem word_loop (t : List UInt8) (h : t.length < 100000000) (d : Nat) : ∀ i : Nat, i + d = t.length →
    Ev (fun k => postilionref44_Word.l0 k (B t) (i : Int)) (decide (t ≠ [] ∧ ((t.drop i).takeWhile plainU).length = (t.drop i).length)) := by
  induction d with
  | zero =>
    intro i hi
    refine evStep (fun k => by rw [postilionref44_Word.l0]) ?_
    refine evNeg (by rw [size_B]; omega) (evSome ?_)
    rw [List.drop_eq_nil_of_le (by omega), toL, L_B]
    by_cases h0 : t = []
    · simp [h0]
    · simp [h0]
  | succ d ih =>
    intro i hi
    have hi2 : i < t.length := by omega
    have hd : t.drop i = t[i] :: t.drop (i + 1) := List.drop_eq_getElem_cons hi2
    have hb : bt (B t) (i : Int) = ((t[i]).toNat : Int) := bt_get (B t) i hi2
    refine evStep (fun k => by rw [postilionref44_Word.l0]) ?_
    refine evPos (by rw [size_B]; omega) (evPos (by omega) ?_)
    rw [hb, hd]
    refine Ev.bind (plain_ref t[i]) ?_
    by_cases hp : plainU t[i] = true
    · refine evPos hp ?_
      rw [wrap_succ i (by omega), List.takeWhile_cons_of_pos hp, List.length_cons, List.length_cons]
      have := ih (i + 1) (by omega)
      simp only [Nat.add_right_cancel_iff]
      exact this
    · refine evNeg hp (evSome ?_)
      rw [List.takeWhile_cons_of_neg hp]
      simp
      intro _
      omega
theorem word_ref (t : List UInt8) (h : t.length < 100000000) : Ev (fun k => postilionref44_Word.f k (B t)) (wordB t) := by
  have := word_loop t h t.length 0 (by omega)
  rw [List.drop_zero] at this
  exact this

/-! ### a source -/
abbrev RR := List S33 × Int × Int
/-- The loop over a word's bytes. -/
theorem l1_ref (s : List UInt8) (hs : s.length < 100000000) (out : List S33) (ho : out.length < 4398046511104) (j : Nat) (u : Int) (v : ByteArray) (ln : Int) (R : RR) : ∀ (t : List UInt8) (i : Nat), s.drop i = t → i ≤ s.length → j ≤ i →
    Ev (fun k => postilionref44_Read.l0 k (B s) (out ++ [⟨1, (B s).extract j (s.length - (t.dropWhile plainU).length), ln⟩]) ((s.length - (t.dropWhile plainU).length : Nat) : Int)) R →
    Ev (fun k => postilionref44_Read.l1 k (B s) out (i : Int) (j : Int) u v ln) R
  | [], i, h, hi, hj, hE => by
    have hl : s.length ≤ i := List.drop_eq_nil_iff.1 h
    rw [List.dropWhile_nil, List.length_nil, show s.length - 0 = i from by omega] at hE
    refine evStep (fun k => by rw [postilionref44_Read.l1]) ?_
    rw [Int.toNat_natCast, Int.toNat_natCast]
    exact evNeg (by rw [size_B]; omega) (evPos (by omega) (evPos (by omega) (evPos (by rw [size_B]; omega) (evPos ho hE))))
  | c :: t, i, h, hi, hj, hE => by
    obtain ⟨h1, h2, h3, h4, h5⟩ := drop_cons h
    refine evStep (fun k => by rw [postilionref44_Read.l1]) ?_
    rw [Int.toNat_natCast, Int.toNat_natCast]
    refine evPos (by rw [size_B]; omega) (evPos (by omega) ?_)
    rw [h2]
    refine Ev.bind (plain_ref c) ?_
    by_cases hp : plainU c = true
    · refine evPos hp ?_
      rw [wrap_succ i (by omega)]
      rw [List.dropWhile_cons_of_pos hp] at hE
      exact l1_ref s hs out ho j u v ln R t (i + 1) h3 (by omega) (by omega) hE
    · rw [List.dropWhile_cons_of_neg hp, show s.length - (c :: t).length = i from by rw [List.length_cons]; omega] at hE
      exact evNeg hp (evPos (by omega) (evPos (by omega) (evPos (by rw [size_B]; omega) (evPos ho hE))))
theorem suf_pos {s r : List UInt8} (h : r <:+ s) : s.drop (s.length - r.length) = r := by
  obtain ⟨p, hp⟩ := h
  have hpl := congrArg List.length hp
  rw [List.length_append] at hpl
  rw [show s.length - r.length = p.length from by omega, ← hp, List.drop_left]
theorem lines_at {s r : List UInt8} (h : r <:+ s) (hs : s.length < 100000000) : Ev (fun k => postilionref44_Lines.f k ((B s).extract 0 (s.length - r.length))) ((s.count 10 - r.count 10 : Nat) : Int) := by
  obtain ⟨p, hp⟩ := h
  have hpl := congrArg List.length hp
  rw [List.length_append] at hpl
  rw [ext_take, show s.length - r.length = p.length from by omega, ← hp, List.take_left, List.count_append, show p.count 10 + r.count 10 - r.count 10 = p.count 10 from by omega]
  exact lines_ends p (by omega)
theorem read_ref_loop (s : List UInt8) (hs : s.length < 100000000) {l : List UInt8} {out : List Tok} {res : List Tok × Nat × Nat} (h : Rd (1 + s.count 10) l out res) : ∀ i : Nat, s.drop i = l → i ≤ s.length →
    (out.length + l.length < 4096 ∨ (res.2.2 = 0 ∧ res.1.length ≤ 4096)) →
    Ev (fun k => postilionref44_Read.l0 k (B s) (out.map toS) (i : Int)) (resS res) := by
  have head : ∀ {l r : List UInt8} {b : Bool} {i : Nat} {out : List S33} {R : RR}, Sk l r b → s.drop i = l → i ≤ s.length → r <:+ s ∧ (r.count 10 ≤ s.count 10) ∧ wrap64 (1 + ((s.count 10 - r.count 10 : Nat) : Int)) = ((1 + s.count 10 - r.count 10 : Nat) : Int) := by
    intro l r b i out R hk hi hle
    have h1 : r <:+ s := (sk_suf hk).trans (hi ▸ List.drop_suffix i s)
    have h2 := suf_count h1
    have h3 : s.count 10 ≤ s.length := List.count_le_length
    refine ⟨h1, h2, ?_⟩
    rw [wrap_le _ (by omega) (by omega)]
    omega
  induction h with
  | @bad l r out hk =>
    intro i hi hle h4
    obtain ⟨h1, h2, h3⟩ := head (out := []) (R := ([], 0, 0)) hk hi hle
    have h5 := suf_len h1
    refine evStep (fun k => by rw [postilionref44_Read.l0]) ?_
    refine Ev.bind (skip_ref s hs hk i hi hle) ?_
    rw [Int.toNat_natCast]
    refine evPos (by omega) (evPos (by rw [size_B]; omega) (Ev.bind (lines_at h1 hs) (evNeg (by simp) (evSome ?_))))
    rw [h3]
    rfl
  | @fin l out hk =>
    intro i hi hle h4
    obtain ⟨h1, h2, h3⟩ := head (out := []) (R := ([], 0, 0)) hk hi hle
    refine evStep (fun k => by rw [postilionref44_Read.l0]) ?_
    refine Ev.bind (skip_ref s hs hk i hi hle) ?_
    rw [Int.toNat_natCast]
    exact evPos (by omega) (evPos (by rw [size_B]; omega) (Ev.bind (lines_at h1 hs) (evPos rfl (evPos (by rw [size_B, List.length_nil]; omega) (Ev.now _)))))
  | @no l r out hk hr hn =>
    intro i hi hle h4
    obtain ⟨h1, h2, h3⟩ := head (out := []) (R := ([], 0, 0)) hk hi hle
    have h5 := suf_len h1
    have h6 : 0 < r.length := List.length_pos_iff.2 hr
    refine evStep (fun k => by rw [postilionref44_Read.l0]) ?_
    refine Ev.bind (skip_ref s hs hk i hi hle) ?_
    rw [Int.toNat_natCast]
    refine evPos (by omega) (evPos (by rw [size_B]; omega) (Ev.bind (lines_at h1 hs) (evPos rfl (evNeg (by rw [size_B]; omega) (evNeg (by rw [List.length_map]; rcases h4 with h4 | h4; have := suf_len (sk_suf hk); omega; exact absurd h4.1 (by intro e; cases e)) (evPos (by rw [size_B]; omega) ?_))))))
    rw [h3]
    have hp := suf_pos h1
    cases hn with
    | @tbad t h =>
      obtain ⟨g1, g2, g3, g4, g5⟩ := drop_cons hp
      rw [g2]
      refine evPos rfl ?_
      have ht : Ev (fun k => postilionref44_text.f k (B s) ((s.length - (34 :: t).length : Nat) : Int)) (txR s.length none) := by
        unfold postilionref44_text.f
        rw [wrap_succ _ (by omega)]
        exact text_ref s hs h _ g3 (by omega) (by rw [List.length_nil]; rw [List.length_cons] at h5; omega)
      exact Ev.bind ht (evNeg (by simp [txR]) (Ev.now _))
    | @no c t n1 n2 n3 =>
      obtain ⟨g1, g2, g3, g4, g5⟩ := drop_cons hp
      rw [g2]
      refine evNeg (fun e => n1 ((u8_nat _ 34).1 (by rw [e]; rfl))) (Ev.bind (in_ends signs c (by decide)) (evNeg (by simpa using n2) (Ev.bind (plain_ref c) (evNeg (by rw [n3]; simp) (Ev.now _)))))
  | @go l r out k x u res hk hr hn hrd ih =>
    intro i hi hle h4
    obtain ⟨h1, h2, h3⟩ := head (out := []) (R := ([], 0, 0)) hk hi hle
    have h5 := suf_len h1
    have h6 : 0 < r.length := List.length_pos_iff.2 hr
    have hn1 := nx_suf hn k x u rfl
    have hu : u <:+ s := hn1.1.trans h1
    have h9 := (rd_ok hrd).2.2.2.1
    have h11 := suf_len (sk_suf hk)
    rw [List.length_append, List.length_singleton] at h9
    have h10 : out.length < 4096 := by
      rcases h4 with h4 | h4
      · omega
      · have := h9 h4.1
        omega
    have hE := ih (s.length - u.length) (suf_pos hu) (by omega) (by rw [List.length_append, List.length_singleton]; rcases h4 with h4 | h4; exact .inl (by omega); exact .inr h4)
    rw [List.map_append] at hE
    refine evStep (fun k => by rw [postilionref44_Read.l0]) ?_
    refine Ev.bind (skip_ref s hs hk i hi hle) ?_
    rw [Int.toNat_natCast]
    refine evPos (by omega) (evPos (by rw [size_B]; omega) (Ev.bind (lines_at h1 hs) (evPos rfl (evNeg (by rw [size_B]; omega) (evNeg (by rw [List.length_map]; omega) (evPos (by rw [size_B]; omega) ?_))))))
    rw [h3]
    have hp := suf_pos h1
    have hol : (out.map toS).length < 4398046511104 := by rw [List.length_map]; omega
    cases hn with
    | @text t o r' h =>
      obtain ⟨g1, g2, g3, g4, g5⟩ := drop_cons hp
      rw [g2]
      refine evPos rfl ?_
      have ht : Ev (fun k => postilionref44_text.f k (B s) ((s.length - (34 :: t).length : Nat) : Int)) (txR s.length (some (x, u))) := by
        unfold postilionref44_text.f
        rw [wrap_succ _ (by omega)]
        exact text_ref s hs h _ g3 (by omega) (by rw [List.length_nil]; rw [List.length_cons] at h5; omega)
      exact Ev.bind ht (evPos rfl (evPos hol hE))
    | @sign c t n1 =>
      obtain ⟨g1, g2, g3, g4, g5⟩ := drop_cons hp
      have hne : c ≠ 34 := fun e => by rw [e] at n1; exact absurd n1 (by decide)
      rw [g2]
      refine evNeg (fun e => hne ((u8_nat _ 34).1 (by rw [e]; rfl))) (Ev.bind (in_ends signs c (by decide)) (evPos (decide_eq_true n1) ?_))
      rw [wrap_succ _ (by omega), Int.toNat_natCast]
      have he : (B s).extract (s.length - (c :: u).length) (s.length - (c :: u).length + 1) = B [c] := ext_one s c u _ hp
      rw [he]
      refine evPos (by omega) (evPos (by rw [size_B]; omega) (evPos hol ?_))
      rw [show s.length - (c :: u).length + 1 = s.length - u.length from by rw [List.length_cons] at h5 ⊢; omega]
      exact hE
    | @word c t n1 n2 n3 =>
      obtain ⟨g1, g2, g3, g4, g5⟩ := drop_cons hp
      rw [g2]
      refine evNeg (fun e => n1 ((u8_nat _ 34).1 (by rw [e]; rfl))) (Ev.bind (in_ends signs c (by decide)) (evNeg (by simpa using n2) (Ev.bind (plain_ref c) (evPos n3 ?_))))
      rw [wrap_succ _ (by omega)]
      refine l1_ref s hs _ hol _ _ _ _ _ t _ g3 (by omega) (by omega) ?_
      have he : (B s).extract (s.length - (c :: t).length) (s.length - (t.dropWhile plainU).length) = B (c :: t.takeWhile plainU) := by
        apply L_inj
        have hl := tw_len t
        rw [L_ext, L_B, hp, L_B]
        rw [List.length_cons] at h5
        rw [show s.length - (t.dropWhile plainU).length - (s.length - (c :: t).length) = (c :: t.takeWhile plainU).length from by simp only [List.length_cons]; omega]
        have e : c :: t = (c :: t.takeWhile plainU) ++ t.dropWhile plainU := by rw [List.cons_append, List.takeWhile_append_dropWhile]
        exact (congrArg (List.take _) e).trans List.take_left
      rw [he]
      exact hE
theorem read_ref {l : List UInt8} {res : List Tok × Nat × Nat} (h : Rd (1 + l.count 10) l [] res) (hl : l.length < 100000000) (h4 : l.length < 4096 ∨ (res.2.2 = 0 ∧ res.1.length ≤ 4096)) :
    Ev (fun k => postilionref44_Read.f k (B l)) (resS res) :=
  read_ref_loop l hl h 0 (by rw [List.drop_zero]) (by omega) (by simpa using h4)

/-! ### the same -/
def sameB (d : Int) (x y : S33) : Bool := decide (x.f0 = y.f0 ∧ x.f1 = y.f1 ∧ (0 ≤ d → x.f2 + d = y.f2))
theorem same_loop (d : Int) (a b : List S33) (hl : a.length = b.length) (ha : a.length < 100000000) (hd : -1 ≤ d ∧ d < 1000000000) (hln : ∀ x ∈ a, 0 ≤ x.f2 ∧ x.f2 < 1000000000)
    (hall : ∀ i (h : i < a.length), sameB d a[i] (b[i]'(by omega)) = true) (n : Nat) : ∀ i : Nat, i + n = a.length →
    Ev (fun k => postilionref44_Same.l0 k a b d (i : Int)) true := by
  induction n with
  | zero =>
    intro i hi
    refine evStep (fun k => by rw [postilionref44_Same.l0]) ?_
    refine evNeg (by omega) ?_
    refine evStep (fun k => by rw [postilionref44_Same.j1]) ?_
    exact evNeg (by simp) (Ev.now _)
  | succ n ih =>
    intro i hi
    have h1 := hall i (by omega)
    unfold sameB at h1
    rw [decide_eq_true_eq] at h1
    have h2 := hln a[i] (List.getElem_mem _)
    refine evStep (fun k => by rw [postilionref44_Same.l0]) ?_
    refine evPos (by omega) ?_
    rw [decide_eq_true (show (i : Int) < (b.length : Int) by omega)]
    refine evStep (fun k => by rw [postilionref44_Same.j1]) ?_
    rw [rd33_nat a i (by omega), rd33_nat b i (by omega)]
    refine evPos rfl (evPos (by omega) (evPos (by omega) (evPos (by omega) (evPos h1.1 (evPos (by rw [h1.2.1]) ?_)))))
    have go := ih (i + 1) (by omega)
    rw [← wrap_succ i (by omega)] at go
    by_cases h0 : 0 ≤ d
    · refine evPos h0 (evPos ?_ go)
      rw [wrap_le _ (by omega) (by omega)]
      exact h1.2.2 h0
    · exact evNeg (by omega) go
theorem same_true (d : Int) (a b : List S33) (hl : a.length = b.length) (ha : a.length < 100000000) (hd : -1 ≤ d ∧ d < 1000000000) (hln : ∀ x ∈ a, 0 ≤ x.f2 ∧ x.f2 < 1000000000)
    (hall : ∀ i (h : i < a.length), sameB d a[i] (b[i]'(by omega)) = true) : Ev (fun k => postilionref44_Same.f k a b d) true := by
  refine evPos (by omega) ?_
  exact same_loop d a b hl ha hd hln hall a.length 0 (by omega)
theorem awake : Ev (fun k => postilionlaw44_awake.f k) true := Ev.of (k := 60) (fun k => postilionlaw44_awake.mono k) (by kernel_rfl)

/-! ### the law -/
theorem rd_nice {l : List UInt8} {res : List Tok × Nat × Nat} (h : Rd (1 + l.count 10) l [] res) (hl : l.length < 100000000) : res.1.length ≤ l.length ∧ ∀ x ∈ res.1.map toS, 0 ≤ x.f2 ∧ x.f2 < 1000000000 := by
  obtain ⟨_, _, h3, _, _, _, h7, _⟩ := rd_ok h
  have hc : l.count 10 ≤ l.length := List.count_le_length
  refine ⟨by simpa using h3, fun x hx => ?_⟩
  obtain ⟨y, hy, rfl⟩ := List.mem_map.1 hx
  have := h7 (fun x hx => by cases hx) y hy
  show 0 ≤ ((y.2.2 : Nat) : Int) ∧ ((y.2.2 : Nat) : Int) < 1000000000
  omega
theorem LexReads (a : ByteArray) : ∃ k, postilionlaw44_LexReads.f k a = some true := by
  refine Ev.rounds ?_
  rw [← B_L a]
  generalize L a = s
  by_cases h1 : ((B s).size : Int) > 1024
  · exact evPos h1 (Ev.bind awake (Ev.now _))
  refine evNeg h1 ?_
  rw [size_B] at h1
  obtain ⟨res, hr⟩ := rd_total (1 + s.count 10) _ s [] (Nat.le_refl _)
  have hn := rd_nice hr (by omega)
  refine Ev.bind (read_own hr (by omega) (.inl (by omega))) (Ev.bind (read_ref hr (by omega) (.inl (by omega))) (Ev.bind (same_true 0 _ _ rfl ?_ (by omega) hn.2 ?_) ?_))
  · show (res.1.map toS).length < _
    rw [List.length_map]
    omega
  · intro i h
    simp [sameB]
  refine evPos rfl (evPos rfl (evPos rfl (Ev.bind (word_own s (by omega)) (Ev.bind (word_ref s (by omega)) (evPos ?_ (Ev.bind awake (Ev.now _)))))))
  unfold wordB
  simp
end Go.Proofs.Ytbgndegdegfebaa.PureR
