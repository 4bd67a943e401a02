/- A row's argument that is a slice of structs, opened: any kind of element whose cells are read by themselves; a slice of pairs. -/
import Derived.Test.YtbgndegdegfebaaOpens
import Derived.Test.YtbgndegdegfebaaK0
import Derived.Deep.Slices
import Derived.Deep.Strs
import Derived.ChangeArms
namespace Go.Proofs.Ytbgndegdegfebaa.Opens
open Go.ChangeShapes Go.WideShapes Go.RowKit Go.Deep Go.Proofs.YtbgndegdegfebaaW.PrintWords Go.Proofs.Ytbgndegdegfebaa.K
set_option linter.unusedVariables false

theorem gather {α : Type} {R : Nat → α → Prop} : ∀ n : Nat, (∀ i, i < n → ∃ x, R i x) → ∃ l : List α, l.length = n ∧ ∀ i x, l[i]? = some x → R i x
  | 0, _ => ⟨[], rfl, fun i x h => by simp at h⟩
  | n + 1, h => by
    obtain ⟨l, hl, hr⟩ := gather n (fun i hi => h i (by omega))
    obtain ⟨x, hx⟩ := h n (by omega)
    refine ⟨l ++ [x], by rw [List.length_append, hl]; rfl, fun i y hy => ?_⟩
    by_cases hi : i < l.length
    · rw [List.getElem?_append_left hi] at hy
      exact hr i y hy
    · have hin : i = n := by
        have := (List.getElem?_eq_some_iff.1 hy).1
        rw [List.length_append, List.length_singleton] at this
        omega
      subst hin
      rw [List.getElem?_append_right (by omega), hl, Nat.sub_self] at hy
      cases hy
      exact hx
theorem st_of_trod {α : Type} (k : Kd α) {H : Type} {enc : TypeId × Value → H} {P : Program} {W : World} {base : Nat} {spare : Nat → Bool} {held : Bool} {t e : TypeId} {a : Option Addr} {len cap : Nat} {d : DataW H} {ps : List MemPlace}
    (hu : P.underlying t = some (.slice e)) (hc : P.cellsOf e = k.sz) (hk : ∀ n cs y, cs.length = k.sz → DataW.trod enc P W base spare held n e cs = some y → ∃ x, k.K W x cs)
    (h : DataW.Trod enc P W base spare held t (.slice a len cap) d ps) : ∃ l : List α, len = l.length ∧ Kd.C k W a l.length l ∧ l.length ≤ cap := by
  obtain ⟨fuel, hf⟩ := h
  rcases open_slice hu hf with ⟨hcs, _⟩ | ⟨x, ln, c, m, n, D, Pl, hcs, _, hl, hm, hz, _, hi⟩
  · simp [Value.cells] at hcs
    obtain ⟨rfl, rfl, rfl⟩ := hcs
    exact ⟨[], rfl, ⟨rfl, by simp, fun h => absurd h (by simp)⟩, by simp⟩
  · simp [Value.cells] at hcs
    obtain ⟨rfl, rfl, rfl⟩ := hcs
    have hlm : len ≤ m := by
      rw [hz]
      split
      · exact hl
      · exact Nat.le_refl _
    obtain ⟨l, hll, hr⟩ := gather (R := fun i y => ∃ cs, k.K W y cs ∧ ∀ j u, cs[j]? = some u → W.cell? (x.add (i * k.sz + j)) = some u) len (fun i hlt => by
      obtain ⟨cs, hcell, hy⟩ := hi i (by omega)
      obtain ⟨_, hcl, hat⟩ := World.cells?_some hcell
      rw [hc] at hcl hat
      obtain ⟨y, hK⟩ := hk n cs _ hcl hy
      refine ⟨y, cs, hK, fun j u hj => ?_⟩
      have hjl := (List.getElem?_eq_some_iff.1 hj).1
      have := hat j (by omega)
      rw [hj, Go.Deep.add_add] at this
      exact this)
    subst hll
    refine ⟨l, rfl, ⟨rfl, by unfold maxLen at hm; omega, fun _ => ⟨x, rfl, fun j p hj => ?_⟩⟩, hl⟩
    obtain ⟨cs, hK, hcell⟩ := hr j p hj
    exact ⟨cs, k.K_len hK, hK, hcell⟩
theorem two {α : Type} : ∀ {l : List α}, l.length = 2 → ∃ a b, l = [a, b]
  | [a, b], _ => ⟨a, b, rfl⟩
theorem one_string {H : Type} {enc : TypeId × Value → H} {P : Program} {W : World} {base : Nat} {spare : Nat → Bool} {held : Bool} {n t : Nat} {u : Value} {y : DataW H × List MemPlace} (hu : P.underlying t = some .string)
    (h : DataW.trod enc P W base spare held n t [u] = some y) : ∃ s, u = .string s := by
  obtain ⟨s, e, _, _⟩ := DataW.trod_string hu h
  exact ⟨s, (List.cons.inj e).1⟩
theorem st47_of_trod {H : Type} {enc : TypeId × Value → H} {W : World} {base : Nat} {spare : Nat → Bool} {held : Bool} {t : TypeId} {a : Option Addr} {len cap : Nat} {d : DataW H} {ps : List MemPlace}
    (hu : Try.prog.underlying t = some (.slice 47)) (h : DataW.Trod enc Try.prog W base spare held t (.slice a len cap) d ps) : ∃ l : List S47, len = l.length ∧ Kd.C k47 W a l.length l ∧ l.length ≤ cap := by
  have c9 : Try.prog.cellsOf 9 = 1 := by kernel_rfl
  refine st_of_trod k47 hu (by kernel_rfl) (fun n cs y hl hy => ?_) h
  obtain ⟨y0, y1, n', _, _, h0, h1⟩ := trod_struct2 Try.underlying47 hy
  obtain ⟨u0, u1, rfl⟩ := two hl
  obtain ⟨s0, rfl⟩ := one_string Try.underlying9 (show DataW.trod enc Try.prog W base spare held n' 9 [u0] = some y0 by rw [c9] at h0; exact h0)
  obtain ⟨s1, rfl⟩ := one_string Try.underlying9 (show DataW.trod enc Try.prog W base spare held n' 9 [u1] = some y1 by rw [c9] at h1; exact h1)
  exact ⟨⟨s0, s1⟩, k47_mk W _⟩
end Go.Proofs.Ytbgndegdegfebaa.Opens
