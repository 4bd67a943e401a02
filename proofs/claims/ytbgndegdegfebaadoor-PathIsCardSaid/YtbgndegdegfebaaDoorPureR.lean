/- Plain laws of layer 16 (path): what the printed functions come to, by lists of bytes. No program in sight. -/
import Derived.Test.YtbgndegdegfebaaDoorPure0
import Derived.Test.YtbgndegdegfebaaDoorR
namespace Go.Proofs.YtbgndegdegfebaaDoor.PureR
open Go.RowKit Go.Proofs.YtbgndegdegfebaaDoorW.PrintWords Go.Proofs.YtbgndegdegfebaaDoorW.PrintLast Go.Proofs.YtbgndegdegfebaaDoorW.PrintMore Go.Proofs.YtbgndegdegfebaaDoor.R Go.Proofs.YtbgndegdegfebaaDoor.Pure0
set_option linter.unusedVariables false
set_option linter.unusedSimpArgs false

theorem rdOf_nat (l : List ByteArray) (i : Nat) (h : i < l.length) : rdOf ByteArray.empty l (i : Int) = l[i] := by
  rw [rdOf, Int.toNat_natCast, List.getD_eq_getElem?_getD, List.getElem?_eq_getElem h]
  rfl
theorem few_loop (l : List ByteArray) (d : Nat) : ∀ i : Nat, i + d = 40 → i ≤ l.length → (∀ j (h : j < l.length), j < i → l[j].size ≤ 100) →
    ∃ b, Ev (fun k => postilionref09_Few.l0 k l (i : Int)) b ∧ (b = true → l.length ≤ 40 ∧ ∀ j (h : j < l.length), l[j].size ≤ 100) := by
  induction d with
  | zero =>
    intro i hi hl hs
    obtain rfl : i = 40 := by omega
    refine ⟨decide ((l.length : Int) ≤ 40), ?_, fun hb => ?_⟩
    · by_cases hlt : ((40 : Nat) : Int) < (l.length : Int)
      · exact evStep (fun k => by rw [postilionref09_Few.l0]) (evPos hlt (evStep (fun k => by rw [postilionref09_Few.j1]) (evNeg (by simp) (Ev.now _))))
      · exact evStep (fun k => by rw [postilionref09_Few.l0]) (evNeg hlt (evStep (fun k => by rw [postilionref09_Few.j1]) (evNeg (by simp) (Ev.now _))))
    · have h40 : (l.length : Int) ≤ 40 := of_decide_eq_true hb
      exact ⟨by omega, fun j h => hs j h (by omega)⟩
  | succ d ih =>
    intro i hi hl hs
    by_cases hlt : i < l.length
    · by_cases hsz : l[i].size ≤ 100
      · obtain ⟨b, hb, hp⟩ := ih (i + 1) (by omega) (by omega) (fun j h hj => by
          rcases (by omega : j < i ∨ j = i) with h' | rfl
          · exact hs j h h'
          · exact hsz)
        refine ⟨b, ?_, hp⟩
        refine evStep (fun k => by rw [postilionref09_Few.l0]) (evPos (by omega) (evStep (fun k => by rw [postilionref09_Few.j1]) (evPos (by simp; omega) (evPos (by omega) (evPos (by omega) (evNeg ?_ ?_))))))
        · rw [rdOf_nat l i hlt]; omega
        · rw [wrap_succ i (by omega)]; exact hb
      · refine ⟨false, ?_, fun h => by cases h⟩
        refine evStep (fun k => by rw [postilionref09_Few.l0]) (evPos (by omega) (evStep (fun k => by rw [postilionref09_Few.j1]) (evPos (by simp; omega) (evPos (by omega) (evPos (by omega) (evPos ?_ (Ev.now _)))))))
        rw [rdOf_nat l i hlt]; omega
    · obtain rfl : i = l.length := by omega
      refine ⟨decide ((l.length : Int) ≤ 40), ?_, fun hb => ?_⟩
      · exact evStep (fun k => by rw [postilionref09_Few.l0]) (evNeg (by omega) (evStep (fun k => by rw [postilionref09_Few.j1]) (evNeg (by simp) (Ev.now _))))
      · exact ⟨by omega, fun j h => hs j h h⟩
theorem few_ends (l : List ByteArray) : ∃ b, Ev (fun k => postilionref09_Few.f k l) b ∧ (b = true → l.length ≤ 40 ∧ ∀ j (h : j < l.length), l[j].size ≤ 100) := by
  obtain ⟨b, hb, hp⟩ := few_loop l 40 0 rfl (Nat.zero_le _) (fun j h hj => absurd hj (Nat.not_lt_zero _))
  exact ⟨b, hb, hp⟩

theorem sameTexts_loop (l : List ByteArray) (h : l.length < 1000000) (d : Nat) : ∀ i : Nat, i + d = l.length → Ev (fun k => postilionref01_SameTexts.l0 k l l (i : Int)) true := by
  induction d with
  | zero =>
    intro i hi
    exact evStep (fun k => by rw [postilionref01_SameTexts.l0]) (evNeg (by omega) (evStep (fun k => by rw [postilionref01_SameTexts.j1]) (evNeg (by simp) (Ev.now _))))
  | succ d ih =>
    intro i hi
    refine evStep (fun k => by rw [postilionref01_SameTexts.l0]) (evPos (by omega) (evStep (fun k => by rw [postilionref01_SameTexts.j1]) (evPos (by simp; omega) (evPos (by omega) (evPos (by omega) (evPos (by omega) (evPos rfl ?_)))))))
    rw [wrap_succ i (by omega)]
    exact ih (i + 1) (by omega)
theorem sameTexts (l : List ByteArray) (h : l.length < 1000000) : Ev (fun k => postilionref01_SameTexts.f k l l) true :=
  evPos rfl (sameTexts_loop l h l.length 0 (by omega))
theorem spl_len (c : UInt8) (n : Nat) : ∀ l : List UInt8, l.length ≤ n → (spl c l).length ≤ l.length + 1 := by
  induction n with
  | zero =>
    intro l h
    obtain rfl : l = [] := List.length_eq_zero_iff.1 (by omega)
    simp [spl]
  | succ n ih =>
    intro l h
    rcases parts c l with hn | ⟨p, q, rfl, hp⟩
    · rw [spl_none hn]; simp
    · rw [spl_some q hp]
      have := ih q (by simp at h; omega)
      simp
      omega

/-! ### the parts of a path -/
def good (r : List UInt8) (n : Nat) : Prop := [] ∉ spl 47 r ∧ n + (spl 47 r).length < 8
instance (r : List UInt8) (n : Nat) : Decidable (good r n) := inferInstanceAs (Decidable (_ ∧ _))
def res (acc : List ByteArray) (r : List UInt8) : List ByteArray × Bool := if good r acc.length then (acc ++ (spl 47 r).map B, true) else ([], false)
def ps (l : List UInt8) : List ByteArray × Bool := if l = [47] then ([], true) else match l with
  | [] => ([], false)
  | b :: r => if b = 47 then res [] r else ([], false)
theorem hasPrefix (b : UInt8) (r : List UInt8) : stringslite_HasPrefix.f (B (b :: r)) ⟨#[47]⟩ = some (b == 47) := by
  unfold stringslite_HasPrefix.f
  have e1 : (B (b :: r)).size = r.length + 1 := by rw [size_B]; simp
  have e2 : (⟨#[47]⟩ : ByteArray).size = 1 := rfl
  rw [e1, e2, if_pos (by omega), if_pos (by omega), if_pos (by omega), toL, toL]
  congr 1
  have e4 : L ((B (b :: r)).extract 0 ((1 : Nat) : Int).toNat) = [b] := by
    rw [Int.toNat_natCast, L_take, L_B]; rfl
  rw [e4]
  show ([b] == [47]) = (b == 47)
  simp [BEq.beq, List.beq]
theorem cutPrefix (b : UInt8) (r : List UInt8) : strings_CutPrefix.f (B (b :: r)) ⟨#[47]⟩ = some (if b = 47 then (B r, true) else (B (b :: r), false)) := by
  unfold strings_CutPrefix.f stringslite_CutPrefix.f
  rw [hasPrefix]
  have e1 : (B (b :: r)).size = r.length + 1 := by rw [size_B]; simp
  have e2 : (⟨#[47]⟩ : ByteArray).size = 1 := rfl
  simp only [Option.bind_some]
  by_cases hb : b = 47
  · rw [if_pos (by simp [hb]), if_pos hb, e2, if_pos (by omega), if_pos (by rw [e1]; omega), Int.toNat_natCast, ext_drop]
    rfl
  · rw [if_neg (by simp [hb]), if_neg hb]; rfl
theorem cutPrefix_nil : strings_CutPrefix.f (B []) ⟨#[47]⟩ = some (B [], false) := by
  unfold strings_CutPrefix.f stringslite_CutPrefix.f stringslite_HasPrefix.f
  rw [if_neg (by rw [size_B]; decide)]
  rfl
theorem split (l : List UInt8) (h : l.length < 1000000) : strings_Split.f (B l) ⟨#[47]⟩ = some ((spl 47 l).map B) := by
  unfold strings_Split.f
  rw [if_pos ⟨by rw [size_B]; omega, by decide⟩, splitB_spl]
theorem index_loop (xs : List (List UInt8)) (h : xs.length < 1000000) (d : Nat) : ∀ i : Nat, i + d = xs.length →
    ∃ r : Int, Ev (fun k => slices_Index_string_string.l0 k (xs.map B) (⟨#[]⟩ : ByteArray) ((xs.map B).length : Int) (i : Int)) r ∧ (0 ≤ r ↔ [] ∈ xs.drop i) := by
  induction d with
  | zero =>
    intro i hi
    refine ⟨-1, ?_, ?_⟩
    · refine evStep (fun k => by rw [slices_Index_string_string.l0]) ?_
      exact evNeg (by rw [List.length_map]; omega) (Ev.now _)
    · rw [List.drop_eq_nil_of_le (by omega)]
      simp
  | succ d ih =>
    intro i hi
    have hi2 : i < xs.length := by omega
    have hi3 : i < (xs.map B).length := by rw [List.length_map]; omega
    have hd : xs.drop i = xs[i] :: xs.drop (i + 1) := List.drop_eq_getElem_cons hi2
    by_cases he : xs[i] = []
    · refine ⟨(i : Int), ?_, ?_⟩
      · refine evStep (fun k => by rw [slices_Index_string_string.l0]) ?_
        refine evPos (by omega) (evPos (by omega) (evPos (by omega) ?_))
        rw [rdOf_nat _ i hi3, List.getElem_map]
        refine evPos ?_ (Ev.now _)
        rw [toL, toL, L_B, he]
      · rw [hd, he]
        simp
    · obtain ⟨r, hr, hp⟩ := ih (i + 1) (by omega)
      refine ⟨r, ?_, ?_⟩
      · refine evStep (fun k => by rw [slices_Index_string_string.l0]) ?_
        refine evPos (by omega) (evPos (by omega) (evPos (by omega) ?_))
        rw [rdOf_nat _ i hi3, List.getElem_map]
        refine evNeg ?_ ?_
        · rw [toL, toL, L_B]
          exact fun e => he e.symm
        · rw [wrap_succ i (by omega)]
          exact hr
      · rw [hp, hd]
        simp only [List.mem_cons]
        exact ⟨.inr, fun h => h.resolve_left (fun e => he e.symm)⟩
theorem contains (xs : List (List UInt8)) (h : xs.length < 1000000) : Ev (fun k => slices_Contains_string_string.f k (xs.map B) (⟨#[]⟩ : ByteArray)) (decide ([] ∈ xs)) := by
  obtain ⟨r, hr, hp⟩ := index_loop xs h xs.length 0 (by omega)
  refine Ev.bind hr (evSome ?_)
  rw [List.drop_zero] at hp
  exact decide_eq_decide.2 hp
theorem parts_own (l : List UInt8) (h : l.length < 1000) : Ev (fun k => path_Parts.f k (B l)) (ps l) := by
  unfold ps
  by_cases h1 : l = [47]
  · rw [if_pos h1]
    exact evPos (by rw [toL, L_B, h1]) (Ev.now _)
  rw [if_neg h1]
  refine evNeg (by rw [toL, L_B]; exact h1) ?_
  cases l with
  | nil =>
    refine evBindSome cutPrefix_nil ?_
    refine evBindSome (split [] (by decide)) ?_
    exact evNeg (by decide) (Ev.now _)
  | cons b r =>
    have hr : r.length < 1000 := by simp at h; omega
    refine evBindSome (cutPrefix b r) ?_
    show Ev _ (if b = 47 then res [] r else ([], false))
    by_cases hb : b = 47
    · rw [if_pos hb, if_pos hb]
      have hsl := spl_len 47 _ r (Nat.le_refl _)
      refine evBindSome (split r (by omega)) ?_
      refine evPos rfl ?_
      unfold res
      by_cases h8 : (spl 47 r).length ≥ 8
      · rw [if_neg (fun hg : good r _ => by have := hg.2; simp at this; omega)]
        exact evPos (by rw [List.length_map]; omega) (Ev.now _)
      · refine evNeg (by rw [List.length_map]; omega) ?_
        refine Ev.bind (contains (spl 47 r) (by omega)) ?_
        by_cases hm : [] ∈ spl 47 r
        · rw [if_neg (fun hg : good r _ => hg.1 hm)]
          exact evPos (decide_eq_true hm) (Ev.now _)
        · rw [if_pos (show good r _ from ⟨hm, by simp; omega⟩)]
          exact evNeg (by simp [hm]) (Ev.now _)
    · rw [if_neg hb, if_neg hb]
      refine evBindSome (split (b :: r) (by omega)) ?_
      exact evNeg (by simp) (Ev.now _)
theorem walk (pr p rest : List UInt8) (hr : rest = [] ∨ ∃ q, rest = 47 :: q) (hp : (47 : UInt8) ∉ p) (hl : (pr ++ p ++ rest).length < 1000000) (acc : List ByteArray) (R : List ByteArray × Bool)
    (next : Ev (fun k => postilionref16_Parts.j2 k (B (pr ++ p ++ rest)) acc (pr.length : Int) ((pr.length + p.length : Nat) : Int) false) R) (d : Nat) : ∀ i : Nat, i + d = pr.length + p.length → pr.length ≤ i →
    Ev (fun k => postilionref16_Parts.l0 k (B (pr ++ p ++ rest)) acc (pr.length : Int) (i : Int)) R := by
  have hlen : (pr ++ p ++ rest).length = pr.length + p.length + rest.length := by simp [Nat.add_assoc]
  induction d with
  | zero =>
    intro i hi hpr
    obtain rfl : i = pr.length + p.length := by omega
    refine evStep (fun k => by rw [postilionref16_Parts.l0]) ?_
    refine evPos (by rw [size_B]; omega) ?_
    rcases hr with rfl | ⟨q, rfl⟩
    · refine evNeg (by rw [size_B]; simp) ?_
      exact next
    · refine evPos (by rw [size_B, hlen]; simp; omega) (evPos (by omega) ?_)
      rw [bt_B]
      have e : (pr ++ p ++ 47 :: q).getD (pr.length + p.length) 0 = 47 := by simp [List.getD_eq_getElem?_getD]
      rw [e]
      exact next
  | succ d ih =>
    intro i hi hpr
    have e : (pr ++ p ++ rest).getD i 0 = p[i - pr.length]'(by omega) := by
      rw [List.getD_eq_getElem?_getD, List.append_assoc, List.getElem?_append_right hpr, List.getElem?_append_left (by omega), List.getElem?_eq_getElem (by omega)]
      rfl
    refine evStep (fun k => by rw [postilionref16_Parts.l0]) ?_
    refine evPos (by rw [size_B]; omega) ?_
    refine evPos (by rw [size_B]; omega) (evPos (by omega) ?_)
    rw [bt_B, e]
    have hne : (((p[i - pr.length]'(by omega)).toNat : Int) != 47) = true := by
      rw [bne_iff_ne]
      intro h
      have h2 : p[i - pr.length]'(by omega) = 47 := (u8_nat _ 47).1 (by rw [h]; rfl)
      exact hp (h2 ▸ List.getElem_mem _)
    rw [hne]
    refine evStep (fun k => by rw [postilionref16_Parts.j2]) ?_
    refine evPos rfl ?_
    rw [wrap_succ i (by omega)]
    exact ih (i + 1) (by omega) (by omega)
theorem parts_loop (n : Nat) : ∀ (pr r : List UInt8) (acc : List ByteArray), r.length ≤ n → (pr ++ r).length < 1000 → acc.length ≤ 7 →
    Ev (fun k => postilionref16_Parts.l0 k (B (pr ++ r)) acc (pr.length : Int) (pr.length : Int)) (res acc r) := by
  induction n with
  | zero =>
    intro pr r acc hn hl ha
    obtain rfl : r = [] := List.length_eq_zero_iff.1 (by omega)
    have := walk pr [] [] (.inl rfl) (by simp) (by simp at hl ⊢; omega) acc (res acc []) ?_ 0 pr.length (by simp) (Nat.le_refl _)
    · simpa using this
    · refine evStep (fun k => by rw [postilionref16_Parts.j2]) ?_
      refine evNeg (by simp) (evPos (by simp) (evSome ?_))
      rw [res, if_neg (fun hg : good [] _ => hg.1 (by simp [spl]))]
  | succ n ih =>
    intro pr r acc hn hl ha
    rcases parts 47 r with hp | ⟨p, q, rfl, hp⟩
    · have := walk pr r [] (.inl rfl) hp (by simp at hl ⊢; omega) acc (res acc r) ?_ r.length pr.length (by omega) (Nat.le_refl _)
      · simpa using this
      · rw [List.append_nil]
        refine evStep (fun k => by rw [postilionref16_Parts.j2]) ?_
        refine evNeg (by simp) ?_
        have hg : good r acc.length ↔ r ≠ [] ∧ acc.length ≠ 7 := by
          unfold good
          rw [spl_none hp]
          constructor
          · rintro ⟨h1, h2⟩
            exact ⟨fun e => h1 (by simp [e]), by simp at h2; omega⟩
          · rintro ⟨h1, h2⟩
            exact ⟨fun hm => h1 (List.mem_singleton.1 hm).symm, by simp; omega⟩
        by_cases h0 : r = []
        · subst h0
          refine evPos (by simp) (evSome ?_)
          rw [res, if_neg (fun h => (hg.1 h).1 rfl)]
        · have hpos := List.length_pos_iff.2 h0
          refine evNeg (by omega) ?_
          by_cases h7 : acc.length = 7
          · refine evPos (by omega) (evSome ?_)
            rw [res, if_neg (fun h => (hg.1 h).2 h7)]
          · refine evNeg (by omega) (evPos (by omega) (evPos (by omega) (evPos ?_ (evPos (by omega) ?_))))
            · rw [size_B]; simp
            · rw [Int.toNat_natCast, Int.toNat_natCast]
              have e : (B (pr ++ r)).extract pr.length (pr.length + r.length) = B r := L_inj (by rw [L_ext, L_B]; simp)
              rw [e, wrap_succ _ (by simp at hl; omega)]
              refine evStep (fun k => by rw [postilionref16_Parts.l0]) ?_
              refine evNeg (by rw [size_B]; simp; omega) (evSome ?_)
              rw [res, if_pos (hg.2 ⟨h0, h7⟩), spl_none hp]
              rfl
    · have := walk pr p (47 :: q) (.inr ⟨q, rfl⟩) hp (by simp at hl ⊢; omega) acc (res acc (p ++ 47 :: q)) ?_ p.length pr.length (by omega) (Nat.le_refl _)
      · simpa using this
      · refine evStep (fun k => by rw [postilionref16_Parts.j2]) ?_
        refine evNeg (by simp) ?_
        by_cases h0 : p = []
        · refine evPos (by simp [h0]) (evSome ?_)
          rw [res, if_neg (fun hg : good _ _ => hg.1 (by rw [spl_some q hp, h0]; simp))]
        · have hpos := List.length_pos_iff.2 h0
          refine evNeg (by omega) ?_
          by_cases h7 : acc.length = 7
          · refine evPos (by omega) (evSome ?_)
            rw [res, if_neg (fun hg : good _ _ => by have := hg.2; rw [spl_some q hp] at this; simp at this; omega)]
          · refine evNeg (by omega) (evPos (by omega) (evPos (by omega) (evPos ?_ (evPos (by omega) ?_))))
            · rw [size_B]; simp; omega
            · rw [Int.toNat_natCast, Int.toNat_natCast]
              have e : (B (pr ++ p ++ 47 :: q)).extract pr.length (pr.length + p.length) = B p := L_inj (by rw [L_ext, L_B]; simp)
              rw [e, wrap_succ _ (by simp at hl; omega)]
              have h2 := ih (pr ++ p ++ [47]) q (acc ++ [B p]) (by simp at hn; omega) (by simp at hl ⊢; omega) (by simp; omega)
              have e2 : (pr ++ p ++ [47]) ++ q = pr ++ p ++ 47 :: q := by simp
              have e3 : (pr ++ p ++ [47]).length = pr.length + p.length + 1 := by simp; omega
              rw [e2, e3] at h2
              have e4 : res (acc ++ [B p]) q = res acc (p ++ 47 :: q) := by
                have hgi : good (p ++ 47 :: q) acc.length ↔ good q (acc ++ [B p]).length := by
                  unfold good
                  rw [spl_some q hp, List.length_append]
                  simp only [List.mem_cons, not_or, List.length_cons, List.length_nil]
                  constructor
                  · rintro ⟨⟨_, h1⟩, h2⟩
                    exact ⟨h1, by omega⟩
                  · rintro ⟨h1, h2⟩
                    exact ⟨⟨fun e => h0 e.symm, h1⟩, by omega⟩
                unfold res
                by_cases hg : good q (acc ++ [B p]).length
                · rw [if_pos hg, if_pos (hgi.2 hg), spl_some q hp]
                  simp
                · rw [if_neg hg, if_neg (fun h => hg (hgi.1 h))]
              rw [e4] at h2
              exact h2
theorem parts_ref (l : List UInt8) (h : l.length < 1000) : Ev (fun k => postilionref16_Parts.f k (B l)) (ps l) := by
  unfold ps
  by_cases h1 : l = [47]
  · rw [if_pos h1]
    exact evPos (by rw [toL, L_B, h1]) (Ev.now _)
  rw [if_neg h1]
  refine evNeg (by rw [toL, L_B]; exact h1) ?_
  cases l with
  | nil =>
    refine evPos (by rw [toL]) ?_
    refine evStep (fun k => by rw [postilionref16_Parts.j0]) ?_
    exact evPos rfl (Ev.now _)
  | cons b r =>
    refine evNeg (by rw [toL, L_B]; simp) (evPos (by rw [size_B]; simp only [List.length_cons]; omega) ?_)
    show Ev _ (if b = 47 then res [] r else ([], false))
    rw [show (0 : Int) = ((0 : Nat) : Int) from rfl, bt_B, List.getD_cons_zero]
    by_cases hb : b = 47
    · rw [if_pos hb]
      subst hb
      refine evStep (fun k => by rw [postilionref16_Parts.j0]) ?_
      refine evNeg (by decide) ?_
      exact parts_loop r.length [47] r [] (Nat.le_refl _) (by simpa using h) (by simp)
    · rw [if_neg hb]
      have hne : ((b.toNat : Int) != 47) = true := by
        rw [bne_iff_ne]
        intro h
        exact hb ((u8_nat _ 47).1 (by rw [h]; rfl))
      rw [hne]
      refine evStep (fun k => by rw [postilionref16_Parts.j0]) ?_
      exact evPos rfl (Ev.now _)
theorem ps_len (l : List UInt8) : (ps l).1.length < 1000000 := by
  unfold ps
  split
  · simp
  · split
    · simp
    · split
      · unfold res
        split
        · rename_i hg
          have := hg.2
          simp at this ⊢
          omega
        · simp
      · simp

/-! ### parts joined -/
def jn (t : List ByteArray) : List UInt8 := Lib.joinTail [47] (t.map L)
theorem jn_cons (x : ByteArray) (t : List ByteArray) : jn (x :: t) = 47 :: L x ++ jn t := by simp [jn, Lib.joinTail]
theorem jn_app (s t : List ByteArray) : jn (s ++ t) = jn s ++ jn t := by simp [jn, Lib.joinTail]
theorem jn_len (t : List ByteArray) (hs : ∀ j (h : j < t.length), t[j].size ≤ 100) : (jn t).length ≤ 101 * t.length := by
  induction t with
  | nil => simp [jn, Lib.joinTail]
  | cons x t ih =>
    have h0 := hs 0 (by simp)
    have h1 := ih (fun j h => hs (j + 1) (by simp; omega))
    rw [jn_cons]
    simp only [List.getElem_cons_zero] at h0
    rw [size_L] at h0
    simp only [List.length_append, List.length_cons]
    omega
def joined (t : List ByteArray) : ByteArray := if t = [] then ⟨#[47]⟩ else B (jn t)
theorem join_own (t : List ByteArray) (ht : t.length ≤ 40) (hs : ∀ j (h : j < t.length), t[j].size ≤ 100) : path_Join.f t = some (joined t) := by
  have hj := jn_len t hs
  unfold path_Join.f strings_Join.f joined
  cases t with
  | nil => rfl
  | cons x t =>
    have e : Lib.join ((x :: t).map (·.data.toList)) [47] = L x ++ jn t := by
      rw [List.map_cons, Lib.join_cons]
      rfl
    have e5 : (⟨#[47]⟩ : ByteArray).data.toList = [47] := rfl
    simp only [e5, e]
    rw [jn_cons] at hj
    simp only [List.length_append, List.length_cons] at hj ht
    have hc : (x :: t).length ≤ 140737488355328 ∧ (L x ++ jn t).length ≤ 140737488355328 := ⟨by simp only [List.length_cons]; omega, by rw [List.length_append]; omega⟩
    rw [if_pos hc]
    simp only [Option.bind_some]
    have e2 : (⟨(L x ++ jn t).toArray⟩ : ByteArray).size = (L x ++ jn t).length := size_B _
    rw [if_pos (by rw [e2, List.length_append]; omega), if_neg (by simp), jn_cons]
    congr 1
theorem join_loop (t : List ByteArray) (ht : t.length ≤ 40) (hs : ∀ j (h : j < t.length), t[j].size ≤ 100) (d : Nat) : ∀ i : Nat, i + d = t.length →
    Ev (fun k => postilionref16_Join.l0 k t (B (jn (t.take i))) (i : Int)) (joined t) := by
  have hj := jn_len t hs
  induction d with
  | zero =>
    intro i hi
    refine evStep (fun k => by rw [postilionref16_Join.l0]) ?_
    refine evNeg (by omega) ?_
    unfold joined
    by_cases h0 : t = []
    · subst h0
      rw [if_pos rfl]
      exact evPos rfl (Ev.now _)
    · have := List.length_pos_iff.2 h0
      rw [if_neg h0]
      refine evNeg (by omega) (evSome ?_)
      rw [List.take_of_length_le (by omega)]
  | succ d ih =>
    intro i hi
    have hi2 : i < t.length := by omega
    have e : t.take (i + 1) = t.take i ++ [t[i]] := by simp
    have e1 : B (jn (t.take i)) ++ (⟨#[47]⟩ : ByteArray) ++ t[i] = B (jn (t.take (i + 1))) := by
      apply L_inj
      rw [L_app, L_app, L_B, L_B, e, jn_app, jn_cons]
      simp [jn, Lib.joinTail]
    have hl : (jn (t.take (i + 1))).length ≤ (jn t).length := by
      have : t = t.take (i + 1) ++ t.drop (i + 1) := by simp
      rw [this, jn_app, ← this]
      simp
    have hsz : (jn (t.take i)).length + 1 + t[i].size = (jn (t.take (i + 1))).length := by
      rw [e, jn_app, jn_cons, size_L]
      simp [jn, Lib.joinTail]
      omega
    refine evStep (fun k => by rw [postilionref16_Join.l0]) ?_
    refine evPos (by omega) ?_
    refine evPos (by rw [size_B]; omega) (evPos (by omega) ?_)
    rw [rdOf_nat t i hi2]
    refine evPos ?_ ?_
    · rw [size_L, L_app, List.length_append, L_B]
      show (jn (t.take i)).length + 1 + t[i].size ≤ _
      omega
    · rw [e1, wrap_succ i (by omega)]
      exact ih (i + 1) (by omega)
theorem join_ref (t : List ByteArray) (ht : t.length ≤ 40) (hs : ∀ j (h : j < t.length), t[j].size ≤ 100) : Ev (fun k => postilionref16_Join.f k t) (joined t) :=
  join_loop t ht hs t.length 0 (by omega)
theorem awake : Ev (fun k => postilionlaw16_awake.f k) true := Ev.of (k := 30) (fun k => postilionlaw16_awake.mono k) (by kernel_rfl)
theorem PathIs (p : ByteArray) (t : List ByteArray) : ∃ k, postilionlaw16_PathIs.f k p t = some true := by
  refine Ev.rounds ?_
  have asleep : Ev (fun k => postilionlaw16_PathIs.j0 k p t true) true := by
    refine evStep (fun k => by rw [postilionlaw16_PathIs.j0]) ?_
    exact evPos rfl (Ev.bind awake (Ev.now _))
  by_cases h1 : (p.size : Int) > 200
  · exact evPos h1 asleep
  refine evNeg h1 ?_
  obtain ⟨b, hb, hp⟩ := few_ends t
  refine Ev.bind hb ?_
  cases b
  · exact asleep
  obtain ⟨ht, hs⟩ := hp rfl
  have hv : (L p).length ≤ 200 := by rw [← size_L]; omega
  obtain ⟨x, rfl⟩ : ∃ x, p = B x := ⟨L p, (B_L p).symm⟩
  rw [L_B] at hv
  refine evStep (fun k => by rw [postilionlaw16_PathIs.j0]) ?_
  refine evNeg (by simp) ?_
  refine Ev.bind (parts_own x (by omega)) ?_
  refine Ev.bind (parts_ref x (by omega)) ?_
  refine Ev.bind (sameTexts _ (ps_len x)) ?_
  refine evPos rfl (evPos (by simp) ?_)
  refine evBindSome (join_own t ht hs) ?_
  refine Ev.bind (join_ref t ht hs) ?_
  refine evPos rfl ?_
  exact Ev.bind awake (Ev.now _)
end Go.Proofs.YtbgndegdegfebaaDoor.PureR
