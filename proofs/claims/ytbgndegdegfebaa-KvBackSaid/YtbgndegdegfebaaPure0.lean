/- Plain words on lists of bytes, on what library functions give, and on functions with a number of rounds: no program in sight. -/
import Derived.Lib.SplitLaws
import Derived.Lib.CutLaws
import Derived.Lib.Join
import Derived.Test.YtbgndegdegfebaaWMore
namespace Go.Proofs.Ytbgndegdegfebaa.Pure0
open Go.RowKit Go.Proofs.YtbgndegdegfebaaW.PrintWords Go.Proofs.YtbgndegdegfebaaW.PrintLast Go.Proofs.YtbgndegdegfebaaW.PrintMore
set_option linter.unusedVariables false
set_option linter.unusedSimpArgs false

/-! ### rounds -/
theorem evPos {α : Type} {c : Prop} [Decidable c] {f g : Nat → Option α} {r : α} (hc : c) (h : Ev f r) : Ev (fun k => if c then f k else g k) r := by
  simpa only [if_pos hc] using h
theorem evNeg {α : Type} {c : Prop} [Decidable c] {f g : Nat → Option α} {r : α} (hc : ¬ c) (h : Ev g r) : Ev (fun k => if c then f k else g k) r := by
  simpa only [if_neg hc] using h
theorem evSome {α : Type} {r r' : α} (h : r' = r) : Ev (fun _ => some r') r := h ▸ Ev.now r'
theorem evBindSome {α β : Type} {a : Option α} {x : α} {f : Nat → α → Option β} {r : β} (h : a = some x) (k : Ev (fun n => f n x) r) : Ev (fun n => a.bind (f n)) r := by
  subst h
  exact k
theorem evStep {α : Type} {g f : Nat → Option α} {r : α} (h : ∀ k, g (k + 1) = f k) (k : Ev f r) : Ev g r := Ev.step h k
theorem evEq {α : Type} {f : Nat → Option α} {r q : α} (h : Ev f r) (k : Ev f q) : r = q := by
  obtain ⟨K, h⟩ := h
  obtain ⟨L, k⟩ := k
  have h1 := h (max K L) (Nat.le_max_left _ _)
  have h2 := k (max K L) (Nat.le_max_right _ _)
  rw [h1] at h2
  exact Option.some.inj h2
theorem wrap_le (i : Int) (h0 : -9223372036854775808 ≤ i) (h1 : i ≤ 9223372036854775807) : wrap64 i = i := by unfold wrap64; omega
theorem wrap_succ (i : Nat) (h : i < 9223372036854775807) : wrap64 ((i : Int) + 1) = ((i + 1 : Nat) : Int) := by unfold wrap64; omega
theorem wrap_add (i n : Nat) (h : i + n < 9223372036854775807) : wrap64 ((i : Int) + (n : Int)) = ((i + n : Nat) : Int) := by unfold wrap64; omega

/-! ### bytes -/
abbrev L (s : ByteArray) : List UInt8 := s.data.toList
abbrev B (l : List UInt8) : ByteArray := ⟨l.toArray⟩
theorem L_B (l : List UInt8) : L (B l) = l := rfl
theorem B_L (s : ByteArray) : B (L s) = s := by cases s; simp
theorem L_inj {s t : ByteArray} (h : L s = L t) : s = t := by rw [← B_L s, ← B_L t, h]
theorem toL (s : ByteArray) : s.toList = L s := ByteArray.toList_eq s
theorem size_L (s : ByteArray) : s.size = (L s).length := (data_length s).symm
theorem size_B (l : List UInt8) : (B l).size = l.length := by rw [size_L]
theorem L_ext (s : ByteArray) (a b : Nat) : L (s.extract a b) = ((L s).drop a).take (b - a) := Lib.extract_data s a b
theorem L_drop (s : ByteArray) (a : Nat) : L (s.extract a s.size) = (L s).drop a := by
  rw [L_ext, List.take_of_length_le]
  rw [List.length_drop, size_L]
  omega
theorem L_take (s : ByteArray) (b : Nat) : L (s.extract 0 b) = (L s).take b := by rw [L_ext]; simp
theorem L_app (s t : ByteArray) : L (s ++ t) = L s ++ L t := by simp [L, ByteArray.data_append]
theorem B_app (l m : List UInt8) : B l ++ B m = B (l ++ m) := L_inj (by rw [L_app])
theorem ext_drop (l : List UInt8) (a : Nat) : (B l).extract a (B l).size = B (l.drop a) := L_inj (by rw [L_drop])
theorem ext_take (l : List UInt8) (b : Nat) : (B l).extract 0 b = B (l.take b) := L_inj (by rw [L_take])
theorem bt_L (s : ByteArray) (i : Nat) : bt s (i : Int) = (((L s).getD i 0).toNat : Int) := by
  rw [← rd_bytesOf, rd, bytesOf]
  rw [Int.toNat_natCast, List.getD_eq_getElem?_getD, List.getElem?_map, List.getD_eq_getElem?_getD]
  cases (L s)[i]? <;> rfl
theorem bt_B (l : List UInt8) (i : Nat) : bt (B l) (i : Int) = ((l.getD i 0).toNat : Int) := bt_L _ _
theorem bt_get (s : ByteArray) (i : Nat) (h : i < (L s).length) : bt s (i : Int) = (((L s)[i]).toNat : Int) := by
  rw [bt_L, List.getD_eq_getElem?_getD, List.getElem?_eq_getElem h]
  rfl
theorem u8_nat (a b : UInt8) : ((a.toNat : Int) = (b.toNat : Int)) ↔ a = b := by
  constructor
  · intro h
    exact UInt8.toNat.inj (by omega)
  · intro h
    rw [h]

/-! ### cutting at a byte -/
/-- Up to the first c. -/
def pre (c : UInt8) : List UInt8 → List UInt8
  | [] => []
  | b :: l => if b = c then [] else b :: pre c l
/-- Cut at each c. -/
def spl (c : UInt8) : List UInt8 → List (List UInt8)
  | [] => [[]]
  | b :: l => if b = c then [] :: spl c l else match spl c l with
    | h :: t => (b :: h) :: t
    | [] => [[b]]
theorem pre_none {c : UInt8} : ∀ {p : List UInt8}, c ∉ p → pre c p = p
  | [], _ => rfl
  | b :: p, h => by
    have h1 : b ≠ c := fun e => h (by simp [e])
    rw [pre, if_neg h1, pre_none (fun hm => h (List.mem_cons_of_mem _ hm))]
theorem pre_some {c : UInt8} (q : List UInt8) : ∀ {p : List UInt8}, c ∉ p → pre c (p ++ c :: q) = p
  | [], _ => by simp [pre]
  | b :: p, h => by
    have h1 : b ≠ c := fun e => h (by simp [e])
    rw [List.cons_append, pre, if_neg h1, pre_some q (fun hm => h (List.mem_cons_of_mem _ hm))]
theorem spl_none {c : UInt8} : ∀ {p : List UInt8}, c ∉ p → spl c p = [p]
  | [], _ => rfl
  | b :: p, h => by
    have h1 : b ≠ c := fun e => h (by simp [e])
    rw [spl, if_neg h1, spl_none (fun hm => h (List.mem_cons_of_mem _ hm))]
theorem spl_some {c : UInt8} (q : List UInt8) : ∀ {p : List UInt8}, c ∉ p → spl c (p ++ c :: q) = p :: spl c q
  | [], _ => by simp [spl]
  | b :: p, h => by
    have h1 : b ≠ c := fun e => h (by simp [e])
    rw [List.cons_append, spl, if_neg h1, spl_some q (fun hm => h (List.mem_cons_of_mem _ hm))]
theorem parts (c : UInt8) (l : List UInt8) : c ∉ l ∨ ∃ p q, l = p ++ c :: q ∧ c ∉ p := by
  induction l with
  | nil => exact .inl (by simp)
  | cons b l ih =>
    by_cases hb : b = c
    · exact .inr ⟨[], l, by rw [hb]; rfl, by simp⟩
    · rcases ih with h | ⟨p, q, e, h⟩
      · exact .inl (by simp only [List.mem_cons, not_or]; exact ⟨fun e => hb e.symm, h⟩)
      · exact .inr ⟨b :: p, q, by rw [e]; rfl, by simp only [List.mem_cons, not_or]; exact ⟨fun e => hb e.symm, h⟩⟩
theorem spl_ne (c : UInt8) (l : List UInt8) : spl c l ≠ [] := by
  rcases parts c l with h | ⟨p, q, rfl, h⟩
  · rw [spl_none h]; simp
  · rw [spl_some q h]; simp
theorem index_none {c : UInt8} : ∀ {l : List UInt8}, c ∉ l → Lib.index l [c] = -1
  | [], _ => rfl
  | b :: l, h => by
    have h1 : ¬ c = b := fun e => h (by simp [e])
    have h2 := index_none (fun hm => h (List.mem_cons_of_mem b hm))
    unfold Lib.index
    simp [List.isPrefixOf, h1, h2]
theorem index_some {c : UInt8} (q : List UInt8) : ∀ {p : List UInt8}, c ∉ p → Lib.index (p ++ c :: q) [c] = (p.length : Int)
  | [], _ => by simp [Lib.index, List.isPrefixOf]
  | b :: p, h => by
    have h1 : ¬ c = b := fun e => h (by simp [e])
    have h2 := index_some q (fun hm => h (List.mem_cons_of_mem b hm))
    rw [List.cons_append]
    unfold Lib.index
    have h3 : ¬ ((p.length : Int) = -1) := by omega
    simp [List.isPrefixOf, h1, h2, h3]
theorem cut_none {c : UInt8} {l : List UInt8} (h : c ∉ l) : Lib.cut l [c] = (l, [], false) := by
  unfold Lib.cut
  rw [index_none h]
  rfl
theorem cut_some {c : UInt8} {p : List UInt8} (q : List UInt8) (h : c ∉ p) : Lib.cut (p ++ c :: q) [c] = (p, q, true) := by
  unfold Lib.cut
  rw [index_some q h, if_pos (by omega)]
  simp
theorem cut_pre (c : UInt8) (l : List UInt8) : (Lib.cut l [c]).1 = pre c l := by
  rcases parts c l with h | ⟨p, q, rfl, h⟩
  · rw [cut_none h, pre_none h]
  · rw [cut_some q h, pre_some q h]
theorem split_spl (c : UInt8) : ∀ (n : Nat) (l : List UInt8), l.length ≤ n → Lib.splitK [c] 0 (Lib.count l [c]) l = spl c l := by
  intro n
  induction n with
  | zero =>
    intro l hl
    obtain rfl : l = [] := List.length_eq_zero_iff.1 (by omega)
    rfl
  | succ n ih =>
    intro l hl
    rcases parts c l with h | ⟨p, q, rfl, h⟩
    · rw [Lib.count_miss (index_none h), spl_none h]
      rfl
    · rw [Lib.count_hit (by simp) (index_some q h), spl_some q h, Nat.add_comm 1]
      unfold Lib.splitK
      rw [index_some q h, if_neg (by simp)]
      have e : (p ++ c :: q).drop (p.length + [c].length) = q := by simp
      simp only [Int.toNat_natCast, Nat.add_zero, List.take_left', e]
      rw [ih q (by simp at hl; omega)]
theorem splitB_spl (c : UInt8) (s : ByteArray) : Lib.splitB ⟨#[c]⟩ 0 (Lib.countB s ⟨#[c]⟩) s = (spl c (L s)).map B := by
  have h1 := Lib.splitB_data ⟨#[c]⟩ 0 (Lib.countB s ⟨#[c]⟩) s
  have h2 := split_spl c _ (L s) (Nat.le_refl _)
  have h3 : (Lib.splitB ⟨#[c]⟩ 0 (Lib.countB s ⟨#[c]⟩) s).map L = spl c (L s) := h1.trans h2
  rw [← h3, List.map_map]
  conv => lhs; rw [← List.map_id (Lib.splitB ⟨#[c]⟩ 0 (Lib.countB s ⟨#[c]⟩) s)]
  exact List.map_congr_left (fun x _ => (B_L x).symm)
end Go.Proofs.Ytbgndegdegfebaa.Pure0
