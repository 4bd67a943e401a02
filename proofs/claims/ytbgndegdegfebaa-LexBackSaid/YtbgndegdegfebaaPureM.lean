/- Plain words of layer 44 (lex) on lists of bytes: what stands between lexemes, a text, a lexeme, a source. No program in sight. -/
import Derived.Test.YtbgndegdegfebaaPure0
namespace Go.Proofs.Ytbgndegdegfebaa.PureM
open Go.RowKit Go.Proofs.YtbgndegdegfebaaW.PrintWords Go.Proofs.YtbgndegdegfebaaW.PrintLast Go.Proofs.YtbgndegdegfebaaW.PrintMore Go.Proofs.Ytbgndegdegfebaa.Pure0
set_option linter.unusedVariables false
set_option linter.unusedSimpArgs false

def plainN (n : Nat) : Bool := (97 ≤ n && n ≤ 122) || (65 ≤ n && n ≤ 90) || (48 ≤ n && n ≤ 57) || [44, 46, 95, 43, 45, 63, 35, 64].contains n
def plainU (x : UInt8) : Bool := plainN x.toNat
def hexD (n : Nat) : UInt8 := [48, 49, 50, 51, 52, 53, 54, 55, 56, 57, 97, 98, 99, 100, 101, 102].getD n 0
def q1 (b : UInt8) : List UInt8 := if b = 34 ∨ b = 92 then [92, b] else if 32 ≤ b.toNat ∧ b.toNat ≤ 126 then [b] else [92, 120, hexD (b.toNat / 16), hexD (b.toNat % 16)]
def qs (l : List UInt8) : List UInt8 := l.flatMap q1
def signs : List UInt8 := [123, 125, 60, 62, 91, 93, 61, 59, 58, 38, 47]
def wordB (t : List UInt8) : Bool := decide (t ≠ [] ∧ (t.takeWhile plainU).length = t.length)
def signB (t : List UInt8) : Bool := match t with
  | [c] => decide (c ∈ signs)
  | _ => false
def pt (n : Int) (t : List UInt8) : List UInt8 × Bool := if n = 1 then (t, wordB t) else if n = 2 then (34 :: qs t ++ [34], !(decide (0 ∈ t))) else if n = 3 then (t, signB t) else ([], false)
def blanks : List UInt8 := [32, 9, 10, 13]
/-- What stands behind the first end of a remark. -/
def aft : List UInt8 → Option (List UInt8)
  | [] => none
  | a :: t => if [42, 47].isPrefixOf (a :: t) then some (t.drop 1) else aft t
/-- Up to the end of a line. -/
def eol (t : List UInt8) : List UInt8 := t.dropWhile (fun c => c != 10)
/-- Over what stands between lexemes; false: a remark does not end. -/
inductive Sk : List UInt8 → List UInt8 → Bool → Prop
  | nil : Sk [] [] true
  | blank {c t r b} : c ∈ blanks → Sk t r b → Sk (c :: t) r b
  | line {t r b} : Sk (eol t) r b → Sk (47 :: 47 :: t) r b
  | rem {t u r b} : aft t = some u → Sk u r b → Sk (47 :: 42 :: t) r b
  | bad {t} : aft t = none → Sk (47 :: 42 :: t) (47 :: 42 :: t) false
  | stop {c t} : c ∉ blanks → [47, 47].isPrefixOf (c :: t) = false → [47, 42].isPrefixOf (c :: t) = false → Sk (c :: t) (c :: t) true
def hexV (c : UInt8) : Option Nat := if 48 ≤ c.toNat ∧ c.toNat ≤ 57 then some (c.toNat - 48) else if 97 ≤ c.toNat ∧ c.toNat ≤ 102 then some (c.toNat - 87) else none
/-- The byte that two digits tell. -/
def hex2 (a b : UInt8) : Option UInt8 := (hexV a).bind fun x => (hexV b).bind fun y => if 16 * x + y = 0 then none else some (UInt8.ofNat (16 * x + y))
def oneX : List UInt8 → Option (UInt8 × Nat)
  | a :: b :: _ => (hex2 a b).map fun x => (x, 4)
  | _ => none
/-- What a mark in a text tells. -/
def oneB : List UInt8 → Option (UInt8 × Nat)
  | [] => none
  | d :: u => if d = 34 ∨ d = 92 then some (d, 2) else if d = 120 then oneX u else none
theorem oneB_cons (d : UInt8) (u : List UInt8) : oneB (d :: u) = if d = 34 ∨ d = 92 then some (d, 2) else if d = 120 then oneX u else none := rfl
theorem oneX_cons (a b : UInt8) (u : List UInt8) : oneX (a :: b :: u) = (hex2 a b).map fun x => (x, 4) := rfl
/-- The byte that a text goes on with, and how many bytes tell it. -/
def oneL : List UInt8 → Option (UInt8 × Nat)
  | [] => none
  | c :: t => if ¬ (32 ≤ c.toNat ∧ c.toNat ≤ 126) then none else if c ≠ 92 then some (c, 1) else oneB t
theorem oneL_cons (c : UInt8) (t : List UInt8) : oneL (c :: t) = if ¬ (32 ≤ c.toNat ∧ c.toNat ≤ 126) then none else if c ≠ 92 then some (c, 1) else oneB t := rfl
/-- A text behind its first sign. -/
inductive Tx : List UInt8 → List UInt8 → Option (List UInt8 × List UInt8) → Prop
  | fin {t acc} : Tx (34 :: t) acc (some (acc, t))
  | out {acc} : Tx [] acc none
  | bad {c t acc} : c ≠ 34 → oneL (c :: t) = none → Tx (c :: t) acc none
  | go {c t acc b n r} : c ≠ 34 → oneL (c :: t) = some (b, n) → Tx ((c :: t).drop n) (acc ++ [b]) r → Tx (c :: t) acc r
/-- A lexeme: its kind, its text, what is left. -/
inductive Nx : List UInt8 → Option (Int × List UInt8 × List UInt8) → Prop
  | text {t o r} : Tx t [] (some (o, r)) → Nx (34 :: t) (some (2, o, r))
  | tbad {t} : Tx t [] none → Nx (34 :: t) none
  | sign {c t} : c ∈ signs → Nx (c :: t) (some (3, [c], t))
  | word {c t} : c ≠ 34 → c ∉ signs → plainU c = true → Nx (c :: t) (some (1, c :: t.takeWhile plainU, t.dropWhile plainU))
  | no {c t} : c ≠ 34 → c ∉ signs → plainU c = false → Nx (c :: t) none
abbrev Tok := Int × List UInt8 × Nat
/-- A source: lexemes, 0, 0; or the line and the error. N: one more than the lines that end in all of it. -/
inductive Rd (N : Nat) : List UInt8 → List Tok → List Tok × Nat × Nat → Prop
  | bad {l r out} : Sk l r false → Rd N l out ([], N - r.count 10, 6)
  | fin {l out} : Sk l [] true → Rd N l out (out, 0, 0)
  | no {l r out} : Sk l r true → r ≠ [] → Nx r none → Rd N l out ([], N - r.count 10, 6)
  | go {l r out k x u res} : Sk l r true → r ≠ [] → Nx r (some (k, x, u)) → Rd N u (out ++ [(k, x, N - r.count 10)]) res → Rd N l out res

/-! ### each has an answer -/
theorem aft_suf : ∀ {t u : List UInt8}, aft t = some u → u <:+ t
  | [], u, h => by simp [aft] at h
  | a :: t, u, h => by
    rw [aft] at h
    split at h
    · cases h
      exact (List.drop_suffix 1 t).trans (List.suffix_cons a t)
    · exact (aft_suf h).trans (List.suffix_cons a t)
theorem eol_suf (t : List UInt8) : eol t <:+ t := List.dropWhile_suffix _
theorem suf_len {u t : List UInt8} (h : u <:+ t) : u.length ≤ t.length := h.length_le
theorem sk_total : ∀ (n : Nat) (l : List UInt8), l.length ≤ n → ∃ r b, Sk l r b := by
  intro n
  induction n with
  | zero =>
    intro l h
    obtain rfl : l = [] := List.length_eq_zero_iff.1 (by omega)
    exact ⟨_, _, .nil⟩
  | succ n ih =>
    intro l h
    cases l with
    | nil => exact ⟨_, _, .nil⟩
    | cons c t =>
      have hc : t.length ≤ n := by simp at h; omega
      by_cases hb : c ∈ blanks
      · obtain ⟨r, b, hs⟩ := ih t hc
        exact ⟨r, b, .blank hb hs⟩
      by_cases h1 : [47, 47].isPrefixOf (c :: t) = true
      · match t, h1, hc with
        | [], h1, _ => simp [List.isPrefixOf] at h1
        | d :: t, h1, hc =>
          simp [List.isPrefixOf] at h1
          obtain ⟨rfl, rfl⟩ := h1
          obtain ⟨r, b, hs⟩ := ih (eol t) (by have := suf_len (eol_suf t); simp at hc; omega)
          exact ⟨r, b, .line hs⟩
      by_cases h2 : [47, 42].isPrefixOf (c :: t) = true
      · match t, h2, hc with
        | [], h2, _ => simp [List.isPrefixOf] at h2
        | d :: t, h2, hc =>
          simp [List.isPrefixOf] at h2
          obtain ⟨rfl, rfl⟩ := h2
          cases ha : aft t with
          | none => exact ⟨_, _, .bad ha⟩
          | some u =>
            obtain ⟨r, b, hs⟩ := ih u (by have := suf_len (aft_suf ha); simp at hc; omega)
            exact ⟨r, b, .rem ha hs⟩
      exact ⟨_, _, .stop hb (Bool.eq_false_iff.2 h1) (Bool.eq_false_iff.2 h2)⟩
theorem sk_suf {l r : List UInt8} {b : Bool} (h : Sk l r b) : r <:+ l := by
  induction h with
  | nil => exact List.suffix_refl _
  | blank _ _ ih => exact ih.trans (List.suffix_cons _ _)
  | line _ ih => exact ((ih.trans (eol_suf _)).trans (List.suffix_cons _ _)).trans (List.suffix_cons _ _)
  | rem ha _ ih => exact ((ih.trans (aft_suf ha)).trans (List.suffix_cons _ _)).trans (List.suffix_cons _ _)
  | bad _ => exact List.suffix_refl _
  | stop => exact List.suffix_refl _
theorem sk_head {l r : List UInt8} {b : Bool} (h : Sk l r b) : ∀ c t, r = c :: t → b = true → c ∉ blanks ∧ [47, 47].isPrefixOf (c :: t) = false ∧ [47, 42].isPrefixOf (c :: t) = false := by
  induction h with
  | nil => intro c t e; cases e
  | blank _ _ ih => exact ih
  | line _ ih => exact ih
  | rem _ _ ih => exact ih
  | bad => intro c t _ e; cases e
  | stop h1 h2 h3 => intro c t e _; cases e; exact ⟨h1, h2, h3⟩
theorem oneL_pos {l : List UInt8} {b : UInt8} {n : Nat} (h : oneL l = some (b, n)) : 1 ≤ n ∧ n ≤ l.length ∧ b ≠ 0 := by
  match l, h with
  | [], h => simp [oneL] at h
  | c :: t, h =>
    rw [oneL_cons] at h
    split at h
    · cases h
    · rename_i hp
      have hp : 32 ≤ c.toNat ∧ c.toNat ≤ 126 := Classical.not_not.1 hp
      split at h
      · cases h
        exact ⟨Nat.le_refl _, by simp, fun e => by rw [e] at hp; exact absurd hp.1 (by decide)⟩
      · match t, h with
        | [], h => cases h
        | d :: u, h =>
          rw [oneB_cons] at h
          split at h
          · rename_i hd
            cases h
            exact ⟨by omega, by simp, fun e => by rw [e] at hd; exact absurd hd (by decide)⟩
          · split at h
            · match u, h with
              | [], h => cases h
              | [a], h => cases h
              | a :: b' :: v, h =>
                rw [oneX_cons, Option.map_eq_some_iff] at h
                obtain ⟨x, hx, he⟩ := h
                cases he
                refine ⟨by omega, by simp, fun e => ?_⟩
                subst e
                unfold hex2 at hx
                obtain ⟨p, hp1, hx⟩ := Option.bind_eq_some_iff.1 hx
                obtain ⟨q, hq1, hx⟩ := Option.bind_eq_some_iff.1 hx
                have hpl : p < 16 := by unfold hexV at hp1; split at hp1; (cases hp1; omega); split at hp1; (cases hp1; omega); cases hp1
                have hql : q < 16 := by unfold hexV at hq1; split at hq1; (cases hq1; omega); split at hq1; (cases hq1; omega); cases hq1
                split at hx
                · cases hx
                · rename_i hne
                  have := congrArg UInt8.toNat (Option.some.inj hx)
                  have hlt : 16 * p + q < 256 := by omega
                  rw [show (UInt8.ofNat (16 * p + q)).toNat = (16 * p + q) % 256 from rfl, Nat.mod_eq_of_lt hlt] at this
                  exact hne this
            · cases h
theorem tx_total : ∀ (n : Nat) (l acc : List UInt8), l.length ≤ n → ∃ r, Tx l acc r := by
  intro n
  induction n with
  | zero =>
    intro l acc h
    obtain rfl : l = [] := List.length_eq_zero_iff.1 (by omega)
    exact ⟨_, .out⟩
  | succ n ih =>
    intro l acc h
    cases l with
    | nil => exact ⟨_, .out⟩
    | cons c t =>
      by_cases hc : c = 34
      · subst hc
        exact ⟨_, .fin⟩
      cases ho : oneL (c :: t) with
      | none => exact ⟨_, .bad hc ho⟩
      | some p =>
        obtain ⟨b, m⟩ := p
        have hm := oneL_pos ho
        obtain ⟨r, hr⟩ := ih ((c :: t).drop m) (acc ++ [b]) (by rw [List.length_drop]; simp at h ⊢; omega)
        exact ⟨r, .go hc ho hr⟩
theorem tx_suf {l acc : List UInt8} {q : Option (List UInt8 × List UInt8)} (h : Tx l acc q) : ∀ o r, q = some (o, r) → r <:+ l ∧ r.length < l.length ∧ o.length ≤ acc.length + l.length ∧ (0 ∉ acc → 0 ∉ o) ∧ r.count 10 = l.count 10 := by
  induction h with
  | fin => intro o r e; cases e; exact ⟨List.suffix_cons _ _, by simp, by omega, fun h => h, by simp⟩
  | out => intro o r e; cases e
  | bad => intro o r e; cases e
  | @go c t acc b n q hc ho hr ih =>
    intro o r e
    obtain ⟨h1, h2, h3, h4, h5⟩ := ih o r e
    have hn := oneL_pos ho
    refine ⟨h1.trans (List.drop_suffix _ _), ?_, ?_, ?_, ?_⟩
    · rw [List.length_drop] at h2; omega
    · rw [List.length_drop, List.length_append] at h3; simp only [List.length_singleton] at h3; omega
    · intro h0
      refine h4 ?_
      rw [List.mem_append, List.mem_singleton]
      exact fun h => h.elim h0 (fun e => hn.2.2 e.symm)
    · rw [h5]
      have hh : ((c :: t).take n).count 10 = 0 := by
        rw [List.count_eq_zero]
        match t, ho with
        | t, ho =>
          rw [oneL_cons] at ho
          split at ho
          · cases ho
          · rename_i hp
            have hp : 32 ≤ c.toNat ∧ c.toNat ≤ 126 := Classical.not_not.1 hp
            have hc10 : (10 : UInt8) ≠ c := fun e => by rw [← e] at hp; exact absurd hp.1 (by decide)
            split at ho
            · cases ho
              simp [hc10]
            · match t, ho with
              | [], ho => cases ho
              | d :: u, ho =>
                rw [oneB_cons] at ho
                split at ho
                · rename_i hd
                  simp only [Option.some.injEq, Prod.mk.injEq] at ho
                  obtain ⟨rfl, rfl⟩ := ho
                  have : (10 : UInt8) ≠ d := fun e => by rw [← e] at hd; exact absurd hd (by decide)
                  simp [hc10, this]
                · split at ho
                  · rename_i hd
                    match u, ho with
                    | [], ho => cases ho
                    | [a], ho => cases ho
                    | a :: b' :: v, ho =>
                      rw [oneX_cons, Option.map_eq_some_iff] at ho
                      obtain ⟨x, hx, he⟩ := ho
                      cases he
                      unfold hex2 at hx
                      obtain ⟨p, hp1, hx⟩ := Option.bind_eq_some_iff.1 hx
                      obtain ⟨q', hq1, hx⟩ := Option.bind_eq_some_iff.1 hx
                      have ha : (10 : UInt8) ≠ a := fun e => by rw [← e] at hp1; exact absurd (hp1.symm.trans (by decide : hexV 10 = none)) (by simp)
                      have hb : (10 : UInt8) ≠ b' := fun e => by rw [← e] at hq1; exact absurd (hq1.symm.trans (by decide : hexV 10 = none)) (by simp)
                      subst hd
                      simp [hc10, ha, hb]
                  · cases ho
      conv => rhs; rw [← List.take_append_drop n (c :: t)]
      rw [List.count_append, hh, Nat.zero_add]
theorem tw_len (l : List UInt8) : (l.takeWhile plainU).length + (l.dropWhile plainU).length = l.length := by
  have := congrArg List.length (List.takeWhile_append_dropWhile (p := plainU) (l := l))
  rw [List.length_append] at this
  exact this
theorem nx_total (c : UInt8) (t : List UInt8) : ∃ q, Nx (c :: t) q := by
  by_cases h1 : c = 34
  · subst h1
    obtain ⟨r, hr⟩ := tx_total _ t [] (Nat.le_refl _)
    match r, hr with
    | none, hr => exact ⟨_, .tbad hr⟩
    | some (o, r), hr => exact ⟨_, .text hr⟩
  by_cases h2 : c ∈ signs
  · exact ⟨_, .sign h2⟩
  by_cases h3 : plainU c = true
  · exact ⟨_, .word h1 h2 h3⟩
  · exact ⟨_, .no h1 h2 (Bool.eq_false_iff.2 h3)⟩
theorem tw_idem (t : List UInt8) : (t.takeWhile plainU).takeWhile plainU = t.takeWhile plainU := by
  induction t with
  | nil => rfl
  | cons a t ih =>
    by_cases h : plainU a = true
    · rw [List.takeWhile_cons_of_pos h, List.takeWhile_cons_of_pos h, ih]
    · rw [List.takeWhile_cons_of_neg h]
      rfl
/-- A lexeme may be put. -/
def okT (x : Tok) : Prop := (pt x.1 x.2.1).2 = true
theorem word_ok {c : UInt8} (t : List UInt8) (h : plainU c = true) : wordB (c :: t.takeWhile plainU) = true := by
  unfold wordB
  rw [decide_eq_true_eq]
  refine ⟨by simp, ?_⟩
  rw [List.takeWhile_cons_of_pos h, List.length_cons, List.length_cons]
  rw [tw_idem]
theorem plain_ne10 {c : UInt8} (h : plainU c = true) : c ≠ 10 := fun e => by rw [e] at h; exact absurd h (by decide)
theorem sign_ne10 {c : UInt8} (h : c ∈ signs) : c ≠ 10 := fun e => by rw [e] at h; exact absurd h (by decide)
theorem tw_count (l : List UInt8) : (l.dropWhile plainU).count 10 = l.count 10 := by
  have h0 : (l.takeWhile plainU).count 10 = 0 := by
    rw [List.count_eq_zero]
    exact fun h => plain_ne10 (List.all_eq_true.1 (List.all_takeWhile (p := plainU) (l := l)) _ h) rfl
  conv => rhs; rw [← List.takeWhile_append_dropWhile (p := plainU) (l := l)]
  rw [List.count_append, h0, Nat.zero_add]
theorem nx_suf {l : List UInt8} {q : Option (Int × List UInt8 × List UInt8)} (h : Nx l q) : ∀ k x u, q = some (k, x, u) → u <:+ l ∧ u.length < l.length ∧ x.length ≤ l.length ∧ (∀ n, okT (k, x, n)) ∧ u.count 10 = l.count 10 := by
  cases h with
  | text h =>
    intro k x u e
    cases e
    obtain ⟨h1, h2, h3, h4, h5⟩ := tx_suf h _ _ rfl
    refine ⟨h1.trans (List.suffix_cons _ _), by simp; omega, by simp at h3 ⊢; omega, fun n => ?_, by rw [h5]; simp⟩
    have := h4 (by simp)
    simp [okT, pt, this]
  | tbad h => intro k x u e; cases e
  | @sign c t h =>
    intro k x u e
    cases e
    exact ⟨List.suffix_cons _ _, by simp, by simp, fun n => by simp [okT, pt, signB, h], by rw [List.count_cons_of_ne (sign_ne10 h)]⟩
  | @word c t h1 h2 h3 =>
    intro k x u e
    cases e
    have h4 := tw_len t
    refine ⟨(List.dropWhile_suffix _).trans (List.suffix_cons _ _), by simp; omega, by simp; omega, fun n => ?_, by rw [List.count_cons_of_ne (plain_ne10 h3), tw_count]⟩
    have := word_ok t h3
    simp [okT, pt, this]
  | no => intro k x u e; cases e
theorem rd_total (N : Nat) : ∀ (n : Nat) (l : List UInt8) (out : List Tok), l.length ≤ n → ∃ res, Rd N l out res := by
  intro n
  induction n with
  | zero =>
    intro l out h
    obtain rfl : l = [] := List.length_eq_zero_iff.1 (by omega)
    exact ⟨_, .fin .nil⟩
  | succ n ih =>
    intro l out h
    obtain ⟨r, b, hs⟩ := sk_total _ l (Nat.le_refl _)
    cases b with
    | false => exact ⟨_, .bad hs⟩
    | true =>
      cases r with
      | nil => exact ⟨_, .fin hs⟩
      | cons c t =>
        obtain ⟨q, hq⟩ := nx_total c t
        match q, hq with
        | none, hq => exact ⟨_, .no hs (by simp) hq⟩
        | some (k, x, u), hq =>
          have h1 := nx_suf hq k x u rfl
          have h2 := suf_len (sk_suf hs)
          obtain ⟨res, hr⟩ := ih u (out ++ [(k, x, N - (c :: t).count 10)]) (by omega)
          exact ⟨res, .go hs (by simp) hq hr⟩
end Go.Proofs.Ytbgndegdegfebaa.PureM
