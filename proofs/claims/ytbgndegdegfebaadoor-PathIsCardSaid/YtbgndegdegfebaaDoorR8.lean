-- PRINTED by print.py (a twelfth state) out of the translation. Not trusted: Lean checks it.
import Derived.Test.YtbgndegdegfebaaDoorR0
namespace Go.Proofs.YtbgndegdegfebaaDoor.R
open Go.RowKit Go.Proofs.YtbgndegdegfebaaDoorW.PrintWords Go.Proofs.YtbgndegdegfebaaDoorW.PrintLast Go.Proofs.YtbgndegdegfebaaDoorW.PrintMore
attribute [local go_sem] max2_int min2_int max_two min_two max_three min_three max_four min_four   -- for this text's walks alone
set_option linter.unusedVariables false
set_option linter.unusedSimpArgs false

-- EXT 50 path_Value making
/-! ### path_Value: function 50, by hand -/
def path_Value.f (a0_0 : ByteArray) (l0_1 : List (S60)) (l0_2 : List (S64)) (a1 : ByteArray) : Option (ByteArray × Bool) :=
  if l0_1 = [] then none else match l0_1.find? (fun x => x.f0.toList == a1.toList) with
  | some x => some (x.f1, true)
  | none => some (⟨#[]⟩, false)
instance path_Value.inh : Inhabited S60 := ⟨z60⟩
def path_Value.enc (x : S60) : List Value := [.string x.f0, .string x.f1]
theorem path_Value.pred (name : ByteArray) (B : Nat) (w : World) (hB : B < w.heap.size) (hcell : w.cell? ⟨B, 0, none⟩ = some (.string name)) :
    PredBelow Tryd.prog 63 #[.pointer (some ⟨B, 0, none⟩)] (fun x : S60 => .agg (path_Value.enc x).toArray) (fun x => x.f0.toList == name.toList) w := fun W x hb => by
  have hc : W.cell? ⟨B, 0, none⟩ = some (.string name) := (hb.cell (p := ⟨B, 0, none⟩) hB).trans hcell
  have hBW : B < W.heap.size := Nat.lt_of_lt_of_le hB hb.size
  show Calls Tryd.prog 63 #[.agg #[.string x.f0, .string x.f1], .pointer (some ⟨B, 0, none⟩)] W _
  go_enter Tryd.func63, Tryd.ntmps63
  go_wp2
  go_ret
  exact ⟨rfl, hb.alloc hb.size _⟩
theorem path_Value.find (p : S60 → Bool) : ∀ (l : List S60) (i : Nat), (l.find? p = none ∧ Lib.idxByFrom (fun _ y => p y) default l i = -1) ∨ ∃ j, ∃ h : j < l.length, l.find? p = some l[j] ∧ Lib.idxByFrom (fun _ y => p y) default l i = ((i + j : Nat) : Int) := by
  intro l
  induction l with
  | nil => intro i; exact .inl ⟨rfl, rfl⟩
  | cons a l ih =>
    intro i
    unfold Lib.idxByFrom
    by_cases ha : p a = true
    · exact .inr ⟨0, by simp, by simp [ha], by rw [if_pos ha]; rfl⟩
    · have ha' : p a = false := by simpa using ha
      rw [if_neg ha]
      rcases ih (i + 1) with ⟨h1, h2⟩ | ⟨j, hj, h1, h2⟩
      · exact .inl ⟨by simp [ha', h1], h2⟩
      · exact .inr ⟨j + 1, by simp; omega, by simp [ha', h1], by rw [h2]; congr 1; omega⟩
set_option maxHeartbeats 4000000 in
set_option maxRecDepth 100000 in
theorem path_Value.calls (a0_0 : ByteArray) (A0_1 : Option Addr) (c0_1 : Nat) (l0_1 : List (S60)) (A0_2 : Option Addr) (c0_2 : Nat) (l0_2 : List (S64)) (a1 : ByteArray) (r1 : ByteArray) (r2 : Bool) (w : World) (hr0_1 : Kd.C k60 w A0_1 l0_1.length l0_1) (hc0_1 : l0_1.length ≤ c0_1) (hr0_2 : Kd.C k64 w A0_2 l0_2.length l0_2) (hc0_2 : l0_2.length ≤ c0_2) (h : path_Value.f a0_0 l0_1 l0_2 a1 = some (r1, r2)) :
    Calls Tryd.prog 50 #[.agg #[.string a0_0, .slice A0_1 l0_1.length c0_1, .slice A0_2 l0_2.length c0_2], .string a1] w fun e w' => e = .returned (.tuple #[.string r1, .bool r2]) ∧ Below w.heap.size w w' := by
  unfold path_Value.f at h
  by_cases h0 : l0_1 = []
  · rw [if_pos h0] at h
    cases h
  rw [if_neg h0] at h
  have hp : 0 < l0_1.length := List.length_pos_iff.2 h0
  have hbig := hr0_1.2.1
  obtain ⟨ad, e0, hx, hx2⟩ := at_T60 hr0_1 0 (by omega) (by omega)
  subst e0
  obtain ⟨b, o, sp⟩ := ad
  have hsp : sp = none := by
    cases sp with
    | none => rfl
    | some q =>
      exfalso
      simp only [Int.toNat_zero, Nat.zero_mul, Addr.add, if_true] at hx
      unfold World.cell? at hx
      split at hx <;> simp at hx
  subst hsp
  have hcells : ∀ (j : Nat) (hj : j < l0_1.length), w.cell? ⟨b, o + j * 2, none⟩ = some (.string l0_1[j].f0) ∧ w.cell? ⟨b, o + j * 2 + 1, none⟩ = some (.string l0_1[j].f1) := by
    intro j hj
    obtain ⟨ad, e1, hx1, hx3⟩ := at_T60 hr0_1 j (by omega) (by omega)
    cases e1
    have ha : (⟨b, o, none⟩ : Addr).add (j * 2) = ⟨b, o + j * 2, none⟩ := by unfold Addr.add; split <;> simp_all
    have hr : rd_T60 l0_1 (j : Int) = l0_1[j] := by simp [rd_T60, List.getD_eq_getElem?_getD, hj]
    rw [Int.toNat_natCast, ha, hr] at hx1 hx3
    exact ⟨hx1, hx3⟩
  have hbw : b < w.heap.size := World.block_lt_of_cell? w _ (hcells 0 hp).1
  clear hx hx2 hr0_1 hr0_2 hc0_2
  have eg : ∀ args w, (callFunc 63 args).run Tryd.prog w = .ok (.enter 63 args) w := enters_of Tryd.func63 (by kernel_rfl) rfl
  have hcon := AnyQ.slices_IndexFunc Tryd.laysG62 2 Tryd.isAgg60 Tryd.sizeOf60 path_Value.enc (fun _ => rfl) (fun x => x.f0.toList == a1.toList) 63 #[.pointer (some ⟨w.heap.size + 1, 0, none⟩)] eg b o l0_1.length c0_1 l0_1
    ((w.alloc (.cells #[.string a0_0, .slice (some ⟨b, o, none⟩) l0_1.length c0_1, .slice A0_2 l0_2.length c0_2] 64)).alloc (.cells #[.string a1] 9))
    (path_Value.pred a1 (w.heap.size + 1) _ (by simp) (by simp)) (Nat.le_refl _) hbig (by simp; omega) (fun j hj i v hi => by
      refine Lib.cell?_alloc_some _ (Lib.cell?_alloc_some _ ?_)
      have h1 := hcells j hj
      rw [List.getElem!_eq_getElem?_getD, List.getElem?_eq_getElem hj, Option.getD_some] at hi
      match i, hi with
      | 0, hi => simp [path_Value.enc] at hi; rw [← hi]; exact h1.1
      | 1, hi => simp [path_Value.enc] at hi; rw [← hi]; exact h1.2
      | i + 2, hi => simp [path_Value.enc] at hi)
  change Calls Tryd.prog 62 _ _ _ at hcon
  rw [List.take_length] at hcon
  have HC := Aside0.mk hcells
  clear hcells
  have hold : ∀ w' : World, Below ((w.alloc (.cells #[.string a0_0, .slice (some ⟨b, o, none⟩) l0_1.length c0_1, .slice A0_2 l0_2.length c0_2] 64)).alloc (.cells #[.string a1] 9)).heap.size ((w.alloc (.cells #[.string a0_0, .slice (some ⟨b, o, none⟩) l0_1.length c0_1, .slice A0_2 l0_2.length c0_2] 64)).alloc (.cells #[.string a1] 9)) w' →
      w'.cell? ⟨w.heap.size, 1, none⟩ = some (.slice (some ⟨b, o, none⟩) l0_1.length c0_1) ∧ Below w.heap.size w w' := fun w' hb => by
    refine ⟨(hb.cell (p := ⟨w.heap.size, 1, none⟩) (by simp; omega)).trans (by simp), ?_⟩
    exact ((((Below.refl _ w).alloc (Nat.le_refl _) _).alloc (by simp) _)).trans (hb.mono (by simp; omega))
  have HO := Aside0.mk hold
  clear hold
  rcases path_Value.find (fun x => x.f0.toList == a1.toList) l0_1 0 with ⟨hf, hi⟩ | ⟨j, hj, hf, hi⟩
  · rw [hf] at h
    cases h
    rw [show Lib.idxBy (fun _ (y : S60) => y.f0.toList == a1.toList) l0_1 default = -1 from hi] at hcon
    have HCON := Aside0.mk hcon
    clear hcon hi hf
    go_enter Tryd.func50, Tryd.ntmps50
    go_wp2_with fail
    refine HCON.out.mono ?_
    rintro e w' ⟨rfl, hb⟩
    obtain ⟨hc, hB⟩ := HO.out w' hb
    have HB := Aside0.mk hB
    clear hb hB
    go_wp2_with fail
    go_ret2
    exact ⟨rfl, HB.out⟩
  · rw [hf] at h
    cases h
    rw [show Lib.idxBy (fun _ (y : S60) => y.f0.toList == a1.toList) l0_1 default = (j : Int) from by rw [show Lib.idxBy (fun _ (y : S60) => y.f0.toList == a1.toList) l0_1 default = _ from hi, Nat.zero_add]] at hcon
    have HCON := Aside0.mk hcon
    clear hcon hi hf
    go_enter Tryd.func50, Tryd.ntmps50
    go_wp2_with fail
    refine HCON.out.mono ?_
    rintro e w' ⟨rfl, hb⟩
    obtain ⟨hc, hB⟩ := HO.out w' hb
    have hc2 : w'.cell? ⟨b, o + j * 2 + 1, none⟩ = some (.string l0_1[j].f1) := (hB.cell (p := ⟨b, o + j * 2 + 1, none⟩) hbw).trans (HC.out j hj).2
    have HB := Aside0.mk hB
    clear hb hB
    go_wp2_with fail
    go_ret2
    exact ⟨rfl, HB.out⟩

end Go.Proofs.YtbgndegdegfebaaDoor.R
