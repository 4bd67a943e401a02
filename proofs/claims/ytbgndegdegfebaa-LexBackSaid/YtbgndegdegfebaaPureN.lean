/- Plain words of layer 44 (lex) on lists of bytes: two sources joined; what is put reads as it was. No program in sight. -/
import Derived.Test.YtbgndegdegfebaaPureM
namespace Go.Proofs.Ytbgndegdegfebaa.PureN
open Go.RowKit Go.Proofs.YtbgndegdegfebaaW.PrintWords Go.Proofs.YtbgndegdegfebaaW.PrintLast Go.Proofs.YtbgndegdegfebaaW.PrintMore Go.Proofs.Ytbgndegdegfebaa.Pure0 Go.Proofs.Ytbgndegdegfebaa.PureM
set_option linter.unusedVariables false
set_option linter.unusedSimpArgs false

/-! ### two sources, with a line's end between -/
theorem eol_app (y : List UInt8) : ∀ t : List UInt8, eol (t ++ 10 :: y) = eol t ++ 10 :: y
  | [] => by simp [eol]
  | a :: t => by
    by_cases h : a = 10
    · subst h
      simp [eol]
    · have := eol_app y t
      unfold eol at this ⊢
      rw [List.cons_append, List.dropWhile_cons_of_pos (by simpa using h), List.dropWhile_cons_of_pos (by simpa using h), this]
theorem pre_app {p l : List UInt8} (y : List UInt8) (h : p.isPrefixOf l = true) : p.isPrefixOf (l ++ y) = true := by
  rw [List.isPrefixOf_iff_prefix] at h ⊢
  exact h.trans (List.prefix_append _ _)
theorem aft_app (y : List UInt8) : ∀ {t u : List UInt8}, aft t = some u → aft (t ++ y) = some (u ++ y)
  | [], u, h => by simp [aft] at h
  | a :: t, u, h => by
    rw [aft] at h
    split at h
    · rename_i hp
      cases h
      rw [List.cons_append, aft, if_pos (by have := pre_app y hp; rwa [List.cons_append] at this)]
      cases t with
      | nil => simp [List.isPrefixOf] at hp
      | cons b t => rfl
    · rename_i hp
      rw [List.cons_append, aft, if_neg, aft_app y h]
      intro hq
      cases t with
      | nil => simp [aft] at h
      | cons b t => simp [List.isPrefixOf] at hp hq; exact hp hq.1 hq.2
theorem pre2 {a b c : UInt8} (t y : List UInt8) (h : [a, b].isPrefixOf (c :: t) = false) (hb : b ≠ 10) : [a, b].isPrefixOf (c :: (t ++ 10 :: y)) = false := by
  cases t with
  | nil => simp [List.isPrefixOf]; exact fun _ => hb
  | cons d t => simpa [List.isPrefixOf] using h
theorem sk_app (y : List UInt8) {l r : List UInt8} {b : Bool} (h : Sk l r b) : b = true → (r ≠ [] → Sk (l ++ 10 :: y) (r ++ 10 :: y) true) ∧ (r = [] → ∀ r' b', Sk (10 :: y) r' b' → Sk (l ++ 10 :: y) r' b') := by
  induction h with
  | nil => exact fun _ => ⟨fun h => absurd rfl h, fun _ r' b' h => h⟩
  | blank hc _ ih => exact fun e => ⟨fun h => .blank hc ((ih e).1 h), fun h r' b' hs => .blank hc ((ih e).2 h r' b' hs)⟩
  | @line t r b _ ih =>
    intro e
    refine ⟨fun h => ?_, fun h r' b' hs => ?_⟩
    · refine Sk.line ?_
      rw [List.append_eq, eol_app]
      exact (ih e).1 h
    · refine Sk.line ?_
      rw [List.append_eq, eol_app]
      exact (ih e).2 h r' b' hs
  | rem ha _ ih => exact fun e => ⟨fun h => .rem (aft_app _ ha) ((ih e).1 h), fun h r' b' hs => .rem (aft_app _ ha) ((ih e).2 h r' b' hs)⟩
  | bad => exact fun e => by cases e
  | stop h1 h2 h3 => exact fun _ => ⟨fun _ => .stop h1 (pre2 _ y h2 (by decide)) (pre2 _ y h3 (by decide)), fun h => by cases h⟩
theorem oneL_app (y : List UInt8) {l : List UInt8} {p : UInt8 × Nat} (h : oneL l = some p) : oneL (l ++ y) = some p := by
  match l, h with
  | [], h => cases h
  | c :: t, h =>
    rw [oneL_cons] at h
    rw [List.cons_append, oneL_cons]
    split at h
    · cases h
    · rename_i h1
      rw [if_neg h1]
      split at h
      · rename_i h2
        rw [if_pos h2]
        exact h
      · rename_i h2
        rw [if_neg h2]
        match t, h with
        | [], h => cases h
        | d :: u, h =>
          rw [oneB_cons] at h
          rw [List.cons_append, oneB_cons]
          split at h
          · rename_i h3
            rw [if_pos h3]
            exact h
          · rename_i h3
            rw [if_neg h3]
            split at h
            · rename_i h4
              rw [if_pos h4]
              match u, h with
              | [], h => cases h
              | [a], h => cases h
              | a :: b :: v, h => exact h
            · cases h
theorem tx_app (y : List UInt8) {l acc : List UInt8} {q : Option (List UInt8 × List UInt8)} (h : Tx l acc q) : ∀ o r, q = some (o, r) → Tx (l ++ y) acc (some (o, r ++ y)) := by
  induction h with
  | fin => intro o r e; cases e; exact .fin
  | out => intro o r e; cases e
  | bad => intro o r e; cases e
  | @go c t acc b n q hc ho hr ih =>
    intro o r e
    have h1 := ih o r e
    refine Tx.go hc (oneL_app y ho) ?_
    show Tx (((c :: t) ++ y).drop n) _ _
    rw [List.drop_append_of_le_length (oneL_pos ho).2.1]
    exact h1
theorem tw_app (y : List UInt8) : ∀ (t : List UInt8) (c : UInt8), plainU c = false → (t ++ c :: y).takeWhile plainU = t.takeWhile plainU ∧ (t ++ c :: y).dropWhile plainU = t.dropWhile plainU ++ c :: y
  | [], c, hc => by simp [List.takeWhile_cons, List.dropWhile_cons, hc]
  | a :: t, c, hc => by
    have := tw_app y t c hc
    by_cases h : plainU a = true
    · rw [List.cons_append, List.takeWhile_cons_of_pos h, List.dropWhile_cons_of_pos h, List.takeWhile_cons_of_pos h, List.dropWhile_cons_of_pos h, this.1, this.2]
      exact ⟨rfl, rfl⟩
    · rw [List.cons_append, List.takeWhile_cons_of_neg h, List.dropWhile_cons_of_neg h, List.takeWhile_cons_of_neg h, List.dropWhile_cons_of_neg h]
      exact ⟨rfl, rfl⟩
theorem nx_app (y : List UInt8) {l : List UInt8} {q : Option (Int × List UInt8 × List UInt8)} (h : Nx l q) : ∀ k x u, q = some (k, x, u) → Nx (l ++ 10 :: y) (some (k, x, u ++ 10 :: y)) := by
  cases h with
  | text h => intro k x u e; cases e; exact .text (tx_app _ h _ _ rfl)
  | tbad h => intro k x u e; cases e
  | sign h => intro k x u e; cases e; exact .sign h
  | @word c t h1 h2 h3 =>
    intro k x u e
    cases e
    have h4 := tw_app y t 10 (by decide)
    have := Nx.word (t := t ++ 10 :: y) h1 h2 h3
    rw [h4.1, h4.2] at this
    exact this
  | no => intro k x u e; cases e
theorem rd_pre {N : Nat} {l l' : List UInt8} {out : List Tok} {res : List Tok × Nat × Nat} (hp : ∀ r b, Sk l r b → Sk l' r b) (h : Rd N l out res) : Rd N l' out res := by
  cases h with
  | bad h => exact .bad (hp _ _ h)
  | fin h => exact .fin (hp _ _ h)
  | no h h1 h2 => exact .no (hp _ _ h) h1 h2
  | go h h1 h2 h3 => exact .go (hp _ _ h) h1 h2 h3
theorem suf_count {r l : List UInt8} (h : r <:+ l) : r.count 10 ≤ l.count 10 := h.sublist.count_le 10
theorem rd_join {N : Nat} (t : List UInt8) {l : List UInt8} {out : List Tok} {res : List Tok × Nat × Nat} (h : Rd N l out res) :
    res.2.2 = 0 → l.count 10 < N → ∀ res', Rd (N + 1 + t.count 10) (10 :: t) res.1 res' → Rd (N + 1 + t.count 10) (l ++ 10 :: t) out res' := by
  induction h with
  | bad => intro e; cases e
  | fin hs => exact fun _ _ res' hr => rd_pre ((sk_app t hs rfl).2 rfl) hr
  | no => intro e; cases e
  | @go l r out k x u res hs hr hn _ ih =>
    intro e hN res' h'
    have h1 := suf_count (sk_suf hs)
    have h2 := nx_suf hn k x u rfl
    have := ih e (by omega) res' h'
    refine Rd.go ((sk_app t hs rfl).1 hr) (by simp) (nx_app t hn k x u rfl) ?_
    rw [List.count_append, List.count_cons_self, show N + 1 + t.count 10 - (r.count 10 + (t.count 10 + 1)) = N - r.count 10 from by omega]
    exact this
/-- Farther down. -/
def sh (d : Nat) (x : Tok) : Tok := (x.1, x.2.1, x.2.2 + d)
theorem rd_shift {N : Nat} (d : Nat) (out2 : List Tok) {l : List UInt8} {out : List Tok} {res : List Tok × Nat × Nat} (h : Rd N l out res) :
    l.count 10 < N → Rd (N + d) l (out2 ++ out.map (sh d)) (if res.2.2 = 0 then (out2 ++ res.1.map (sh d), 0, 0) else ([], res.2.1 + d, res.2.2)) := by
  induction h with
  | @bad l r out hs =>
    intro hN
    have h1 := suf_count (sk_suf hs)
    rw [if_neg (by simp), show N - r.count 10 + d = N + d - r.count 10 from by omega]
    exact .bad hs
  | fin hs =>
    intro hN
    rw [if_pos rfl]
    exact .fin hs
  | @no l r out hs hr hn =>
    intro hN
    have h1 := suf_count (sk_suf hs)
    rw [if_neg (by simp), show N - r.count 10 + d = N + d - r.count 10 from by omega]
    exact .no hs hr hn
  | @go l r out k x u res hs hr hn _ ih =>
    intro hN
    have h1 := suf_count (sk_suf hs)
    have h2 := nx_suf hn k x u rfl
    have := ih (by omega)
    refine Rd.go hs hr hn ?_
    rw [List.map_append, ← List.append_assoc] at this
    rw [show N + d - r.count 10 = N - r.count 10 + d from by omega]
    exact this

/-! ### what is put reads as it was -/
def pc (x : Tok) : List UInt8 := (pt x.1 x.2.1).1
theorem plain_rest {c : UInt8} (h : plainU c = true) : c ≠ 34 ∧ c ∉ signs ∧ c ∉ blanks ∧ c ≠ 47 ∧ c ≠ 10 := by
  refine ⟨fun e => ?_, fun hm => ?_, fun hm => ?_, fun e => ?_, fun e => ?_⟩
  · rw [e] at h; exact absurd h (by decide)
  · have : (signs.all fun c => !plainU c) = true := by decide
    have := List.all_eq_true.1 this c hm
    rw [h] at this
    cases this
  · have : (blanks.all fun c => !plainU c) = true := by decide
    have := List.all_eq_true.1 this c hm
    rw [h] at this
    cases this
  · rw [e] at h; exact absurd h (by decide)
  · rw [e] at h; exact absurd h (by decide)
theorem sign_rest {c : UInt8} (h : c ∈ signs) : c ∉ blanks ∧ c ≠ 10 := by
  have : (signs.all fun c => decide (c ∉ blanks ∧ c ≠ 10)) = true := by decide
  exact of_decide_eq_true (List.all_eq_true.1 this c h)
theorem word_all : ∀ {t : List UInt8}, (t.takeWhile plainU).length = t.length → ∀ c ∈ t, plainU c = true
  | [], _, c, h => by cases h
  | a :: t, e, c, h => by
    by_cases ha : plainU a = true
    · rw [List.takeWhile_cons_of_pos ha, List.length_cons, List.length_cons] at e
      rcases List.mem_cons.1 h with rfl | h
      · exact ha
      · exact word_all (by omega) c h
    · rw [List.takeWhile_cons_of_neg ha] at e
      simp at e
theorem tw_all (y : List UInt8) (hy : y = [] ∨ ∃ z, y = 32 :: z) : ∀ {t : List UInt8}, (∀ c ∈ t, plainU c = true) → (t ++ y).takeWhile plainU = t ∧ (t ++ y).dropWhile plainU = y
  | [], _ => by
    rcases hy with rfl | ⟨z, rfl⟩
    · exact ⟨rfl, rfl⟩
    · have : plainU 32 = false := by decide
      simp [List.takeWhile_cons, List.dropWhile_cons, this]
  | a :: t, h => by
    have := tw_all y hy (t := t) (fun c hc => h c (List.mem_cons_of_mem _ hc))
    have ha := h a (List.mem_cons_self ..)
    rw [List.cons_append, List.takeWhile_cons_of_pos ha, List.dropWhile_cons_of_pos ha, this.1, this.2]
    exact ⟨rfl, rfl⟩
theorem hex_back : (List.range 256).all (fun n => n == 0 || hex2 (hexD (n / 16)) (hexD (n % 16)) == some (UInt8.ofNat n)) = true := by decide +kernel
theorem hexD_ne10 : (List.range 16).all (fun n => hexD n != 10) = true := by decide +kernel
theorem one_q1 (b : UInt8) (y : List UInt8) (h0 : b ≠ 0) : ∃ c t, q1 b = c :: t ∧ c ≠ 34 ∧ oneL (c :: (t ++ y)) = some (b, (q1 b).length) := by
  unfold q1
  by_cases h1 : b = 34 ∨ b = 92
  · rw [if_pos h1]
    refine ⟨92, [b], rfl, by decide, ?_⟩
    rw [oneL_cons, if_neg (by decide), if_neg (by decide), List.cons_append, oneB_cons, if_pos h1]
    rfl
  rw [if_neg h1]
  by_cases h2 : 32 ≤ b.toNat ∧ b.toNat ≤ 126
  · rw [if_pos h2]
    refine ⟨b, [], rfl, fun e => h1 (.inl e), ?_⟩
    rw [oneL_cons, if_neg (fun h => h h2), if_pos (fun e => h1 (.inr e))]
    rfl
  · rw [if_neg h2]
    refine ⟨92, _, rfl, by decide, ?_⟩
    rw [oneL_cons, if_neg (by decide), if_neg (by decide), List.cons_append, oneB_cons, if_neg (by decide), if_pos rfl, List.cons_append, List.cons_append, oneX_cons]
    have h := List.all_eq_true.1 hex_back b.toNat (List.mem_range.2 b.toNat_lt)
    have hb : UInt8.ofNat b.toNat = b := by simp
    have hz : (b.toNat == 0) = false := beq_eq_false_iff_ne.2 (fun e => h0 (UInt8.toNat.inj (by rw [e]; rfl)))
    rw [hz, Bool.false_or, hb] at h
    rw [eq_of_beq h]
    rfl
theorem tx_qs (y : List UInt8) : ∀ (x acc : List UInt8), 0 ∉ x → Tx (qs x ++ 34 :: y) acc (some (acc ++ x, y))
  | [], acc, _ => by
    rw [List.append_nil]
    exact .fin
  | b :: x, acc, h => by
    have hb : b ≠ 0 := fun e => h (by simp [e])
    have ih := tx_qs y x (acc ++ [b]) (fun hm => h (List.mem_cons_of_mem _ hm))
    obtain ⟨c, t, hq, hc, ho⟩ := one_q1 b (qs x ++ 34 :: y) hb
    rw [show qs (b :: x) ++ 34 :: y = c :: (t ++ (qs x ++ 34 :: y)) from by rw [qs, List.flatMap_cons, hq]; simp [qs]]
    refine Tx.go hc ho ?_
    rw [show c :: (t ++ (qs x ++ 34 :: y)) = q1 b ++ (qs x ++ 34 :: y) from by rw [hq]; rfl, List.drop_left]
    rw [show acc ++ b :: x = acc ++ [b] ++ x from by simp]
    exact ih
theorem nx_piece (k : Int) (x : List UInt8) (n : Nat) (y : List UInt8) (hy : y = [] ∨ ∃ z, y = 32 :: z) (h : okT (k, x, n)) :
    Nx (pc (k, x, n) ++ y) (some (k, x, y)) ∧ Sk (pc (k, x, n) ++ y) (pc (k, x, n) ++ y) true ∧ pc (k, x, n) ++ y ≠ [] ∧ (pc (k, x, n)).count 10 = 0 := by
  unfold okT pt at h
  unfold pc pt
  by_cases h1 : k = 1
  · subst h1
    simp only [if_true] at h ⊢
    unfold wordB at h
    rw [decide_eq_true_eq] at h
    have ha := word_all h.2
    match x, h, ha with
    | [], h, _ => exact absurd rfl h.1
    | c :: t, h, ha =>
      have hc := ha c (List.mem_cons_self ..)
      have hr := plain_rest hc
      have hw := tw_all y hy (t := t) (fun d hd => ha d (List.mem_cons_of_mem _ hd))
      refine ⟨?_, ?_, by simp, ?_⟩
      · have := Nx.word (t := t ++ y) hr.1 hr.2.1 hc
        rw [hw.1, hw.2] at this
        exact this
      · refine Sk.stop hr.2.2.1 ?_ ?_
        · simp [List.isPrefixOf]; intro e; exact absurd e.symm hr.2.2.2.1
        · simp [List.isPrefixOf]; intro e; exact absurd e.symm hr.2.2.2.1
      · rw [List.count_eq_zero]
        intro hm
        exact (plain_rest (ha 10 hm)).2.2.2.2 rfl
  rw [if_neg h1] at h ⊢
  by_cases h2 : k = 2
  · subst h2
    simp only [if_true] at h ⊢
    have h0 : 0 ∉ x := by simpa using h
    refine ⟨?_, ?_, by simp, ?_⟩
    · rw [show 34 :: qs x ++ [34] ++ y = 34 :: (qs x ++ 34 :: y) from by simp]
      have := tx_qs y x [] h0
      rw [List.nil_append] at this
      exact .text this
    · rw [show 34 :: qs x ++ [34] ++ y = 34 :: (qs x ++ 34 :: y) from by simp]
      exact Sk.stop (by decide) (by simp [List.isPrefixOf]) (by simp [List.isPrefixOf])
    · rw [List.count_eq_zero]
      intro hm
      simp only [List.cons_append, List.mem_cons, List.mem_append, List.not_mem_nil, or_false] at hm
      rcases hm with e | hm | e
      · exact absurd e (by decide)
      · unfold qs at hm
        obtain ⟨b, _, hb⟩ := List.mem_flatMap.1 hm
        unfold q1 at hb
        split at hb
        · rename_i hq
          simp only [List.mem_cons, List.not_mem_nil, or_false] at hb
          rcases hb with e | e
          · exact absurd e (by decide)
          · rw [← e] at hq; exact absurd hq (by decide)
        · split at hb
          · rename_i hq
            simp only [List.mem_cons, List.not_mem_nil, or_false] at hb
            rw [← hb] at hq; exact absurd hq.1 (by decide)
          · simp only [List.mem_cons, List.not_mem_nil, or_false] at hb
            have hn := b.toNat_lt
            have hh : ∀ n, n < 16 → (10 : UInt8) ≠ hexD n := fun n hn e => by
              have := List.all_eq_true.1 hexD_ne10 n (List.mem_range.2 hn)
              rw [← e] at this
              exact absurd this (by decide)
            rcases hb with e | e | e | e
            · exact absurd e (by decide)
            · exact absurd e (by decide)
            · exact hh _ (by omega) e
            · exact hh _ (by omega) e
      · exact absurd e (by decide)
  rw [if_neg h2] at h ⊢
  by_cases h3 : k = 3
  · subst h3
    simp only [if_true] at h ⊢
    match x, h with
    | [], h => cases h
    | [c], h =>
      have hc : c ∈ signs := of_decide_eq_true h
      have hr := sign_rest hc
      refine ⟨Nx.sign hc, ?_, by simp, by show List.count 10 [c] = 0; rw [List.count_cons_of_ne hr.2]; rfl⟩
      refine Sk.stop hr.1 ?_ ?_
      · rcases hy with rfl | ⟨z, rfl⟩ <;> simp [List.isPrefixOf]
      · rcases hy with rfl | ⟨z, rfl⟩ <;> simp [List.isPrefixOf]
    | a :: b :: l, h => cases h
  · rw [if_neg h3] at h
    cases h
/-- The pieces behind the first, each behind a blank. -/
def tl (m : List Tok) : List UInt8 := Lib.joinTail [32] (m.map pc)
theorem tl_cons (x : Tok) (m : List Tok) : tl (x :: m) = 32 :: (pc x ++ tl m) := by simp [tl, Lib.joinTail]
theorem tl_head (m : List Tok) : tl m = [] ∨ ∃ z, tl m = 32 :: z := by
  cases m with
  | nil => exact .inl rfl
  | cons x m => exact .inr ⟨_, tl_cons x m⟩
theorem tl_count : ∀ (m : List Tok), (∀ x ∈ m, okT x) → (tl m).count 10 = 0
  | [], _ => rfl
  | (k, x, n) :: m, h => by
    have h1 := (nx_piece k x n [] (.inl rfl) (h _ (List.mem_cons_self ..))).2.2.2
    rw [tl_cons, List.count_cons_of_ne (by decide), List.count_append, h1, tl_count m (fun y hy => h y (List.mem_cons_of_mem _ hy))]
def on (N : Nat) (x : Tok) : Tok := (x.1, x.2.1, N)
theorem rd_tl (N : Nat) : ∀ (m out : List Tok), (∀ x ∈ m, okT x) → Rd N (tl m) out (out ++ m.map (on N), 0, 0)
  | [], out, _ => by
    rw [List.map_nil, List.append_nil]
    exact .fin .nil
  | (k, x, n) :: m, out, h => by
    have h1 := nx_piece k x n (tl m) (tl_head m) (h _ (List.mem_cons_self ..))
    have hm := fun y hy => h y (List.mem_cons_of_mem _ hy)
    rw [tl_cons]
    refine Rd.go (Sk.blank (by decide) h1.2.1) h1.2.2.1 h1.1 ?_
    rw [List.count_append, h1.2.2.2, tl_count m hm, show N - (0 + 0) = N from rfl]
    have := rd_tl N m (out ++ [(k, x, N)]) hm
    rw [List.append_assoc] at this
    exact this
def src (m : List Tok) : List UInt8 := Lib.join (m.map pc) [32]
theorem rd_src (N : Nat) (m : List Tok) (h : ∀ x ∈ m, okT x) : Rd N (src m) [] (m.map (on N), 0, 0) := by
  match m, h with
  | [], h => exact .fin .nil
  | (k, x, n) :: m, h =>
    have h1 := nx_piece k x n (tl m) (tl_head m) (h _ (List.mem_cons_self ..))
    have hm := fun y hy => h y (List.mem_cons_of_mem _ hy)
    rw [show src ((k, x, n) :: m) = pc (k, x, n) ++ tl m from by rw [src, List.map_cons, Lib.join_cons]; rfl]
    refine Rd.go h1.2.1 h1.2.2.1 h1.1 ?_
    rw [List.count_append, h1.2.2.2, tl_count m hm, show N - (0 + 0) = N from rfl]
    exact rd_tl N m _ hm
theorem src_count (m : List Tok) (h : ∀ x ∈ m, okT x) : (src m).count 10 = 0 := by
  match m, h with
  | [], h => rfl
  | (k, x, n) :: m, h =>
    have h1 := (nx_piece k x n [] (.inl rfl) (h _ (List.mem_cons_self ..))).2.2.2
    rw [show src ((k, x, n) :: m) = pc (k, x, n) ++ tl m from by rw [src, List.map_cons, Lib.join_cons]; rfl, List.count_append, h1, tl_count m (fun y hy => h y (List.mem_cons_of_mem _ hy))]
theorem rd_ok {N : Nat} {l : List UInt8} {out : List Tok} {res : List Tok × Nat × Nat} (h : Rd N l out res) :
    ((∀ x ∈ out, okT x) → ∀ x ∈ res.1, okT x) ∧ (∀ M, l.length ≤ M → (∀ x ∈ out, x.2.1.length ≤ M) → ∀ x ∈ res.1, x.2.1.length ≤ M) ∧ res.1.length ≤ out.length + l.length ∧ (res.2.2 = 0 → out.length ≤ res.1.length) ∧ (res.2.2 = 0 → res.2.1 = 0) ∧ (res.2.2 ≠ 0 → res.1 = [] ∧ res.2.2 = 6) ∧ ((∀ x ∈ out, x.2.2 ≤ N) → ∀ x ∈ res.1, x.2.2 ≤ N) ∧ res.2.1 ≤ N := by
  induction h with
  | bad => exact ⟨(fun _ x h => by cases h), (fun _ _ _ x h => by cases h), by simp, (fun e => by cases e), (fun e => by cases e), fun _ => ⟨rfl, rfl⟩, (fun _ x h => by cases h), by simp⟩
  | fin => exact ⟨fun h => h, fun _ _ h => h, by simp, fun _ => Nat.le_refl _, fun _ => rfl, fun h => absurd rfl h, fun h => h, by simp⟩
  | no => exact ⟨(fun _ x h => by cases h), (fun _ _ _ x h => by cases h), by simp, (fun e => by cases e), (fun e => by cases e), fun _ => ⟨rfl, rfl⟩, (fun _ x h => by cases h), by simp⟩
  | @go l r out k x u res hs hr hn _ ih =>
    obtain ⟨i1, i2, i3, i4, i5, i6, i7, i8⟩ := ih
    have h1 := suf_len (sk_suf hs)
    have h2 := nx_suf hn k x u rfl
    rw [List.length_append, List.length_singleton] at i3 i4
    refine ⟨fun h => i1 fun y hy => ?_, fun M hM h => i2 M (by omega) fun y hy => ?_, by omega, fun e => by have := i4 e; omega, i5, i6, fun h => i7 fun y hy => ?_, i8⟩
    · rcases List.mem_append.1 hy with hy | hy
      · exact h y hy
      · obtain rfl := List.mem_singleton.1 hy
        exact h2.2.2.2.1 _
    · rcases List.mem_append.1 hy with hy | hy
      · exact h y hy
      · obtain rfl := List.mem_singleton.1 hy
        exact Nat.le_trans h2.2.2.1 (by omega)
    · rcases List.mem_append.1 hy with hy | hy
      · exact h y hy
      · obtain rfl := List.mem_singleton.1 hy
        exact Nat.sub_le _ _
theorem qs_len : ∀ x : List UInt8, (qs x).length ≤ 4 * x.length
  | [] => by simp [qs]
  | b :: x => by
    have := qs_len x
    have h1 : (q1 b).length ≤ 4 := by unfold q1; split; simp; split <;> simp
    rw [qs, List.flatMap_cons, List.length_append, List.length_cons]
    unfold qs at this
    omega
theorem pt_len (k : Int) (x : List UInt8) : (pt k x).1.length ≤ 4 * x.length + 2 := by
  have := qs_len x
  unfold pt
  split
  · show x.length ≤ _; omega
  split
  · simp; omega
  split
  · show x.length ≤ _; omega
  · simp
theorem join_len (M : Nat) : ∀ (l : List (List UInt8)), (∀ x ∈ l, x.length ≤ M) → (Lib.join l [32]).length ≤ l.length * (M + 1) := by
  have tail : ∀ (l : List (List UInt8)), (∀ x ∈ l, x.length ≤ M) → (Lib.joinTail [32] l).length ≤ l.length * (M + 1) := by
    intro l
    induction l with
    | nil => intro _; simp [Lib.joinTail]
    | cons y l ih =>
      intro h
      have h1 := ih (fun x hx => h x (List.mem_cons_of_mem _ hx))
      have h2 := h y (List.mem_cons_self ..)
      rw [show Lib.joinTail [32] (y :: l) = 32 :: (y ++ Lib.joinTail [32] l) from by simp [Lib.joinTail]]
      rw [List.length_cons, List.length_append, List.length_cons, Nat.succ_mul]
      omega
  intro l h
  cases l with
  | nil => simp [Lib.join]
  | cons y l =>
    have h1 := tail l (fun x hx => h x (List.mem_cons_of_mem _ hx))
    have h2 := h y (List.mem_cons_self ..)
    rw [Lib.join_cons, List.length_append, List.length_cons, Nat.succ_mul]
    omega
end Go.Proofs.Ytbgndegdegfebaa.PureN
