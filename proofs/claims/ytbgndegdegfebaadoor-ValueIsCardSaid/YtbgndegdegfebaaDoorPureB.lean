/- Plain laws of layer 13 (value): texts, numbers as bytes, and the two statements' plain parts. No program in sight. -/
import Derived.Test.YtbgndegdegfebaaDoorPureA
namespace Go.Proofs.YtbgndegdegfebaaDoor.PureB
open Go.RowKit Go.Proofs.YtbgndegdegfebaaDoorW.PrintWords Go.Proofs.YtbgndegdegfebaaDoorW.PrintLast Go.Proofs.YtbgndegdegfebaaDoorW.PrintMore Go.Proofs.YtbgndegdegfebaaDoor.Q Go.Proofs.YtbgndegdegfebaaDoor.Pure0 Go.Proofs.YtbgndegdegfebaaDoor.PureA
set_option linter.unusedVariables false
set_option linter.unusedSimpArgs false

/-! ### a value as texts -/
theorem ends (l : List UInt8) : l = [] ∨ ∃ p b, l = p ++ [b] := by
  rcases List.eq_nil_or_concat l with h | ⟨p, b, h⟩
  · exact .inl h
  · exact .inr ⟨p, b, by simpa using h⟩
theorem hasSuffix (p : List UInt8) (b : UInt8) (h : p.length < 1000000) : stringslite_HasSuffix.f (B (p ++ [b])) ⟨#[0]⟩ = some (b == 0) := by
  unfold stringslite_HasSuffix.f
  have e1 : (B (p ++ [b])).size = p.length + 1 := by rw [size_B]; simp
  have e2 : (⟨#[0]⟩ : ByteArray).size = 1 := rfl
  have e3 : wrap64 (((p.length + 1 : Nat) : Int) - ((1 : Nat) : Int)) = (p.length : Int) := by unfold wrap64; omega
  rw [e1, e2, e3, if_pos (by omega), if_pos (by omega), if_pos (by omega), toL, toL, Int.toNat_natCast]
  congr 1
  have e4 : L ((B (p ++ [b])).extract p.length (p.length + 1)) = [b] := by
    rw [L_ext, L_B]; simp
  rw [e4]
  show ([b] == [0]) = (b == 0)
  simp [BEq.beq, List.beq]
theorem hasSuffix_nil : stringslite_HasSuffix.f (B []) ⟨#[0]⟩ = some false := by
  unfold stringslite_HasSuffix.f
  rw [if_neg (by rw [size_B]; decide)]
theorem cutSuffix (p : List UInt8) (b : UInt8) (h : p.length < 1000000) : strings_CutSuffix.f (B (p ++ [b])) ⟨#[0]⟩ = some (if b = 0 then (B p, true) else (B (p ++ [b]), false)) := by
  unfold strings_CutSuffix.f stringslite_CutSuffix.f
  rw [hasSuffix p b h]
  have e1 : (B (p ++ [b])).size = p.length + 1 := by rw [size_B]; simp
  have e2 : (⟨#[0]⟩ : ByteArray).size = 1 := rfl
  have e3 : wrap64 (((p.length + 1 : Nat) : Int) - ((1 : Nat) : Int)) = (p.length : Int) := by unfold wrap64; omega
  simp only [Option.bind_some]
  by_cases hb : b = 0
  · rw [if_pos (by simp [hb]), if_pos hb, e1, e2, e3, if_pos (by omega), if_pos (by omega), Int.toNat_natCast, ext_take]
    simp
  · rw [if_neg (by simp [hb]), if_neg hb]; rfl
theorem split (l : List UInt8) (h : l.length < 1000000) : strings_Split.f (B l) ⟨#[0]⟩ = some ((spl 0 l).map B) := by
  unfold strings_Split.f
  rw [if_pos ⟨by rw [size_B]; omega, by decide⟩, splitB_spl]
/-- What a value's texts are. -/
def asTexts (l : List UInt8) : List ByteArray × Bool := if l = [] then ([], false) else if l.getLast? = some 0 then ((spl 0 l.dropLast).map B, true) else ([], false)
theorem asTexts_snoc (p : List UInt8) (b : UInt8) : asTexts (p ++ [b]) = if b = 0 then ((spl 0 p).map B, true) else ([], false) := by
  unfold asTexts
  rw [if_neg (by simp), List.getLast?_concat, List.dropLast_concat]
  simp only [Option.some.injEq]
theorem asTexts_own (l : List UInt8) (h : l.length < 1000000) : value_AsTexts.f (B l) = some (asTexts l) := by
  unfold value_AsTexts.f
  rcases ends l with rfl | ⟨p, b, rfl⟩
  · unfold strings_CutSuffix.f stringslite_CutSuffix.f
    rw [hasSuffix_nil]
    rfl
  · have hp : p.length < 1000000 := by simp at h; omega
    rw [cutSuffix p b hp, asTexts_snoc]
    by_cases hb : b = 0
    · rw [if_pos hb, if_pos hb]
      simp only [Option.bind_some, if_true]
      rw [split p hp]; rfl
    · rw [if_neg hb, if_neg hb]
      rfl
theorem cut_loop (p q : List UInt8) (c : Bool) (h : p.length + q.length < 1000000) (hp : (0 : UInt8) ∉ p) (d : Nat) : ∀ i : Nat, i + d = p.length →
    Ev (fun k => postilionref13_cut.l0 k (B (if c then p ++ 0 :: q else p)) (i : Int)) (B p) := by
  induction d with
  | zero =>
    intro i hi
    obtain rfl : i = p.length := by omega
    cases c
    · refine evStep (fun k => by rw [postilionref13_cut.l0]) ?_
      refine evNeg ?_ (evSome rfl)
      rw [size_B]; simp
    · refine evStep (fun k => by rw [postilionref13_cut.l0]) ?_
      refine evPos ?_ (evPos (by omega) (evPos ?_ (evPos ?_ (evSome ?_))))
      · rw [size_B]; simp; omega
      · rw [bt_B]; simp
      · rw [size_B]; simp; omega
      · rw [Int.toNat_natCast, ext_take]; simp
  | succ d ih =>
    intro i hi
    have hi2 : i < p.length := by omega
    refine evStep (fun k => by rw [postilionref13_cut.l0]) ?_
    refine evPos ?_ (evPos (by omega) (evNeg ?_ ?_))
    · rw [size_B]; cases c <;> simp <;> omega
    · rw [bt_B]
      have e : (if c = true then p ++ 0 :: q else p).getD i 0 = p[i] := by
        cases c <;> simp [List.getD_eq_getElem?_getD, List.getElem?_append_left hi2, List.getElem?_eq_getElem hi2]
      rw [e]
      intro hz
      have : p[i] = 0 := (u8_nat p[i] 0).1 (by rw [hz]; rfl)
      exact hp (this ▸ List.getElem_mem hi2)
    · rw [wrap_succ i (by omega)]
      exact ih (i + 1) (by omega)
theorem cut (l : List UInt8) (h : l.length < 1000000) : Ev (fun k => postilionref13_cut.f k (B l)) (B (pre 0 l)) := by
  rcases parts 0 l with hn | ⟨p, q, rfl, hp⟩
  · rw [pre_none hn]
    exact cut_loop l [] false (by simpa using h) hn l.length 0 (by omega)
  · rw [pre_some q hp]
    exact cut_loop p q true (by simp at h; omega) hp p.length 0 (by omega)
theorem asTexts_loop (n : Nat) : ∀ (l : List UInt8) (acc : List ByteArray), l.length ≤ n → acc.length + l.length < 990000 →
    Ev (fun k => postilionref13_AsTexts.l0 k (B (l ++ [0])) acc) (acc ++ (spl 0 l).map B, true) := by
  induction n with
  | zero =>
    intro l acc hl ha
    obtain rfl : l = [] := List.length_eq_zero_iff.1 (by omega)
    refine evStep (fun k => by rw [postilionref13_AsTexts.l0]) ?_
    refine evNeg (by rw [toL]; simp) (Ev.bind (cut _ (by simp)) (evPos ?_ (evPos ?_ (evPos ?_ ?_))))
    · simp at ha
      omega
    · show 0 ≤ wrap64 ((([] : List UInt8).length : Int) + 1)
      unfold wrap64; simp
    · show wrap64 ((([] : List UInt8).length : Int) + 1) ≤ 1
      unfold wrap64; simp
    · refine evStep (fun k => by rw [postilionref13_AsTexts.l0]) ?_
      refine evPos (by rw [toL]; show L ((B [0]).extract (wrap64 (0 + 1)).toNat 1) = []; rw [L_ext]; unfold wrap64; simp) (evSome rfl)
  | succ n ih =>
    intro l acc hl ha
    rcases parts 0 l with hn | ⟨p, q, rfl, hp⟩
    · have e1 : pre 0 (l ++ [0]) = l := pre_some [] hn
      have e2 : (B (l ++ [0])).size = l.length + 1 := by rw [size_B]; simp
      have e3 : wrap64 (((B (pre 0 (l ++ [0]))).size : Int) + 1) = ((l.length + 1 : Nat) : Int) := by rw [e1, size_B]; exact wrap_succ _ (by omega)
      refine evStep (fun k => by rw [postilionref13_AsTexts.l0]) ?_
      refine evNeg (by rw [toL]; simp) (Ev.bind (cut _ (by simp at ha ⊢; omega)) (evPos ?_ (evPos ?_ (evPos ?_ ?_))))
      · omega
      · rw [e3]; omega
      · rw [e3, e2]; omega
      · rw [e3, e1, Int.toNat_natCast, ext_drop, spl_none hn]
        refine evStep (fun k => by rw [postilionref13_AsTexts.l0]) ?_
        refine evPos ?_ (evSome rfl)
        rw [toL]; simp
    · have e1 : pre 0 ((p ++ 0 :: q) ++ [0]) = p := by rw [List.append_assoc]; exact pre_some _ hp
      have e2 : (B ((p ++ 0 :: q) ++ [0])).size = p.length + q.length + 2 := by rw [size_B]; simp; omega
      have e3 : wrap64 (((B (pre 0 ((p ++ 0 :: q) ++ [0]))).size : Int) + 1) = ((p.length + 1 : Nat) : Int) := by
        rw [e1, size_B]; exact wrap_succ _ (by simp at ha; omega)
      have hlen : (p ++ 0 :: q).length = p.length + q.length + 1 := by simp; omega
      refine evStep (fun k => by rw [postilionref13_AsTexts.l0]) ?_
      refine evNeg (by rw [toL]; simp) (Ev.bind (cut _ (by simp at ha ⊢; omega)) (evPos ?_ (evPos ?_ (evPos ?_ ?_))))
      · omega
      · rw [e3]; omega
      · rw [e3, e2]; omega
      · rw [e3, e1, Int.toNat_natCast, ext_drop, spl_some q hp]
        have e4 : ((p ++ 0 :: q) ++ [0]).drop (p.length + 1) = q ++ [0] := by simp
        rw [e4]
        have := ih q (acc ++ [B p]) (by omega) (by simp; omega)
        rw [List.append_assoc] at this
        exact this
theorem asTexts_ref (l : List UInt8) (h : l.length < 900000) : Ev (fun k => postilionref13_AsTexts.f k (B l)) (asTexts l) := by
  rcases ends l with rfl | ⟨p, b, rfl⟩
  · refine evPos ?_ (evStep (fun k => by rw [postilionref13_AsTexts.j0]) (evPos ?_ (evSome ?_)))
    · rw [toL]
    · rfl
    · rfl
  · have hp : p.length < 900000 := by simp at h; omega
    have e1 : (B (p ++ [b])).size = p.length + 1 := by rw [size_B]; simp
    have e3 : wrap64 (((B (p ++ [b])).size : Int) - 1) = (p.length : Int) := by rw [e1]; unfold wrap64; omega
    rw [asTexts_snoc]
    refine evNeg (by rw [toL]; simp) (evPos ?_ (evPos ?_ ?_))
    · rw [e3]; omega
    · rw [e3, e1]; omega
    · rw [e3, bt_B]
      have e4 : (p ++ [b]).getD p.length 0 = b := by simp [List.getD_eq_getElem?_getD]
      rw [e4]
      by_cases hb : b = 0
      · subst hb
        rw [if_pos rfl]
        have := asTexts_loop p.length p [] (Nat.le_refl _) (by simp; omega)
        refine evStep (fun k => by rw [postilionref13_AsTexts.j0]) ?_
        refine evNeg (by decide) this
      · rw [if_neg hb]
        refine evStep (fun k => by rw [postilionref13_AsTexts.j0]) ?_
        refine evPos ?_ (evSome rfl)
        rw [bne_iff_ne]
        intro e
        exact hb ((u8_nat b 0).1 (by rw [e]; rfl))
def asText (l : List UInt8) : ByteArray × Bool := if (asTexts l).2 = true then (if ((asTexts l).1.length : Int) = 1 then (rdOf ByteArray.empty (asTexts l).1 0, true) else (⟨#[]⟩, false)) else (⟨#[]⟩, false)
theorem asText_own (l : List UInt8) (h : l.length < 1000000) : value_AsText.f (B l) = some (asText l) := by
  unfold value_AsText.f asText
  rw [asTexts_own l h]
  simp only [Option.bind_some]
  by_cases h1 : (asTexts l).2 = true
  · rw [if_pos h1, if_pos h1]
    by_cases h2 : ((asTexts l).1.length : Int) = 1
    · rw [if_pos h2, if_pos h2, if_pos (by omega)]
    · rw [if_neg h2, if_neg h2]
  · rw [if_neg h1, if_neg h1]
theorem asText_ref (l : List UInt8) (h : l.length < 900000) : Ev (fun k => postilionref13_AsText.f k (B l)) (asText l) := by
  have hr := asTexts_ref l h
  unfold asText
  generalize asTexts l = t at hr
  obtain ⟨x, y⟩ := t
  refine Ev.bind hr ?_
  cases y
  · refine evNeg ?_ (evSome ?_)
    · simp
    · rfl
  · refine evPos ?_ ?_
    · rfl
    · by_cases h2 : (x.length : Int) = 1
      · rw [if_pos rfl]
        refine evPos h2 (evPos ?_ (evSome ?_))
        · show 0 < (x.length : Int)
          omega
        · rw [if_pos h2]
      · rw [if_pos rfl]
        refine evNeg h2 (evSome ?_)
        rw [if_neg h2]
theorem spl_len (c : UInt8) (n : Nat) : ∀ l : List UInt8, l.length ≤ n → (spl c l).length ≤ l.length + 1 := by
  induction n with
  | zero =>
    intro l h
    obtain rfl : l = [] := List.length_eq_zero_iff.1 (by omega)
    simp [spl]
  | succ n ih =>
    intro l h
    rcases parts c l with hn | ⟨p, q, rfl, hp⟩
    · rw [spl_none hn]; simp
    · rw [spl_some q hp]
      have := ih q (by simp at h; omega)
      simp
      omega
theorem asTexts_len (l : List UInt8) : (asTexts l).1.length ≤ l.length + 1 := by
  unfold asTexts
  split
  · simp
  · split
    · have := spl_len 0 _ l.dropLast (Nat.le_refl _)
      simp at this ⊢
      omega
    · simp
end Go.Proofs.YtbgndegdegfebaaDoor.PureB
