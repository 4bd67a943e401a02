-- PRINTED by print.py (a twelfth state) out of the translation. Not trusted: Lean checks it.
import Derived.Test.YtbgndegdegfebaaK0
namespace Go.Proofs.Ytbgndegdegfebaa.K
open Go.RowKit Go.Proofs.YtbgndegdegfebaaW.PrintWords Go.Proofs.YtbgndegdegfebaaW.PrintLast Go.Proofs.YtbgndegdegfebaaW.PrintMore
attribute [local go_sem] max2_int min2_int max_two min_two max_three min_three max_four min_four   -- for this text's walks alone
set_option linter.unusedVariables false
set_option linter.unusedSimpArgs false

-- EXT 26 kv_Get making
/-! ### kv_Get: function 26, by hand: slices.IndexFunc by the shelf -/
def kv_Get.f (l0 : List S47) (a1 : ByteArray) : Option (ByteArray × Bool) := match l0.find? (fun x => x.f0.toList == a1.toList) with
  | some x => some (x.f1, true)
  | none => some (⟨#[]⟩, false)
instance kv_Get.inh : Inhabited S47 := ⟨z47⟩
def kv_Get.enc (x : S47) : List Value := [.string x.f0, .string x.f1]
theorem kv_Get.pred (name : ByteArray) (B : Nat) (w : World) (hB : B < w.heap.size) (hcell : w.cell? ⟨B, 0, none⟩ = some (.string name)) :
    PredBelow Try.prog 54 #[.pointer (some ⟨B, 0, none⟩)] (fun x : S47 => .agg (kv_Get.enc x).toArray) (fun x => x.f0.toList == name.toList) w := fun W x hb => by
  have hc : W.cell? ⟨B, 0, none⟩ = some (.string name) := (hb.cell (p := ⟨B, 0, none⟩) hB).trans hcell
  have hBW : B < W.heap.size := Nat.lt_of_lt_of_le hB hb.size
  show Calls Try.prog 54 #[.agg #[.string x.f0, .string x.f1], .pointer (some ⟨B, 0, none⟩)] W _
  go_enter Try.func54, Try.ntmps54
  go_wp2
  go_ret
  exact ⟨rfl, hb.alloc hb.size _⟩
theorem kv_Get.find (p : S47 → Bool) : ∀ (l : List S47) (i : Nat), (l.find? p = none ∧ Lib.idxByFrom (fun _ y => p y) default l i = -1) ∨ ∃ j, ∃ h : j < l.length, l.find? p = some l[j] ∧ Lib.idxByFrom (fun _ y => p y) default l i = ((i + j : Nat) : Int) := by
  intro l
  induction l with
  | nil => intro i; exact .inl ⟨rfl, rfl⟩
  | cons a l ih =>
    intro i
    unfold Lib.idxByFrom
    by_cases ha : p a = true
    · exact .inr ⟨0, by simp, by simp [ha], by rw [if_pos ha]; rfl⟩
    · have ha' : p a = false := by simpa using ha
      rw [if_neg ha]
      rcases ih (i + 1) with ⟨h1, h2⟩ | ⟨j, hj, h1, h2⟩
      · exact .inl ⟨by simp [ha', h1], h2⟩
      · exact .inr ⟨j + 1, by simp; omega, by simp [ha', h1], by rw [h2]; congr 1; omega⟩
theorem kv_Get.empty (A : Option Addr) (c : Nat) (f : Value) (w : World) : Calls Try.prog 53 #[.slice A 0 c, f] w fun e w' => e = .returned (.int .i64 (-1)) ∧ w' = w := by
  go_enter Try.func53, Try.ntmps53
  go_wp2
  refine wp_loop_rounds 1 ?_
  rw [rounds_succ]
  go_wp2
  go_ret
  exact ⟨rfl, rfl⟩
theorem kv_Get.cells {w : World} {A : Option Addr} {l : List S47} (h : Kd.C k47 w A l.length l) (hp : 0 < l.length) : ∃ b o, A = some ⟨b, o, none⟩ ∧ b < w.heap.size ∧ ∀ (j : Nat) (hj : j < l.length), w.cell? ⟨b, o + j * 2, none⟩ = some (.string l[j].f0) ∧ w.cell? ⟨b, o + j * 2 + 1, none⟩ = some (.string l[j].f1) := by
  obtain ⟨ad, e0, hx, hx2⟩ := at_T47 h 0 (by omega) (by omega)
  subst e0
  obtain ⟨b, o, sp⟩ := ad
  have hsp : sp = none := by
    cases sp with
    | none => rfl
    | some q =>
      exfalso
      simp only [Int.toNat_zero, Nat.zero_mul, Addr.add, if_true] at hx
      unfold World.cell? at hx
      split at hx <;> simp at hx
  subst hsp
  have hcells : ∀ (j : Nat) (hj : j < l.length), w.cell? ⟨b, o + j * 2, none⟩ = some (.string l[j].f0) ∧ w.cell? ⟨b, o + j * 2 + 1, none⟩ = some (.string l[j].f1) := by
    intro j hj
    obtain ⟨ad, e1, hx1, hx3⟩ := at_T47 h j (by omega) (by omega)
    cases e1
    have ha : (⟨b, o, none⟩ : Addr).add (j * 2) = ⟨b, o + j * 2, none⟩ := by unfold Addr.add; split <;> simp_all
    have hr : rd_T47 l (j : Int) = l[j] := by simp [rd_T47, List.getD_eq_getElem?_getD, hj]
    rw [Int.toNat_natCast, ha, hr] at hx1 hx3
    exact ⟨hx1, hx3⟩
  exact ⟨b, o, rfl, World.block_lt_of_cell? w _ (hcells 0 hp).1, hcells⟩
set_option maxHeartbeats 4000000 in
set_option maxRecDepth 100000 in
theorem kv_Get.calls (A0 : Option Addr) (c0 : Nat) (l0 : List S47) (a1 : ByteArray) (r1 : ByteArray) (r2 : Bool) (w : World) (hr0 : Kd.C k47 w A0 l0.length l0) (hc0 : l0.length ≤ c0) (h : kv_Get.f l0 a1 = some (r1, r2)) :
    Calls Try.prog 26 #[.slice A0 l0.length c0, .string a1] w fun e w' => e = .returned (.tuple #[.string r1, .bool r2]) ∧ Below w.heap.size w w' := by
  unfold kv_Get.f at h
  by_cases h0 : l0 = []
  · subst h0
    cases h
    clear hr0 hc0
    go_enter Try.func26, Try.ntmps26
    go_wp2_with fail
    refine (kv_Get.empty _ _ _ _).mono ?_
    rintro e w' ⟨rfl, rfl⟩
    go_wp2_with fail
    go_ret2
    exact ⟨rfl, (Below.refl _ _).alloc (Nat.le_refl _) _⟩
  have hp : 0 < l0.length := List.length_pos_iff.2 h0
  have hbig := hr0.2.1
  obtain ⟨b, o, rfl, hbw, hcells⟩ := kv_Get.cells hr0 hp
  clear hr0
  have eg : ∀ args w, (callFunc 54 args).run Try.prog w = .ok (.enter 54 args) w := enters_of Try.func54 (by kernel_rfl) rfl
  have hcon := AnyQ.slices_IndexFunc Try.laysG53 2 Try.isAgg47 Try.sizeOf47 kv_Get.enc (fun _ => rfl) (fun x => x.f0.toList == a1.toList) 54 #[.pointer (some ⟨w.heap.size, 0, none⟩)] eg b o l0.length c0 l0
    (w.alloc (.cells #[.string a1] 9))
    (kv_Get.pred a1 w.heap.size _ (by simp) (by simp)) (Nat.le_refl _) hbig (by simp; omega) (fun j hj i v hi => by
      refine Lib.cell?_alloc_some _ ?_
      have h1 := hcells j hj
      rw [List.getElem!_eq_getElem?_getD, List.getElem?_eq_getElem hj, Option.getD_some] at hi
      match i, hi with
      | 0, hi => simp [kv_Get.enc] at hi; rw [← hi]; exact h1.1
      | 1, hi => simp [kv_Get.enc] at hi; rw [← hi]; exact h1.2
      | i + 2, hi => simp [kv_Get.enc] at hi)
  change Calls Try.prog 53 _ _ _ at hcon
  rw [List.take_length] at hcon
  have HC := Aside0.mk hcells
  clear hcells
  have hold : ∀ w' : World, Below (w.alloc (.cells #[.string a1] 9)).heap.size (w.alloc (.cells #[.string a1] 9)) w' → Below w.heap.size w w' := fun w' hb =>
    ((Below.refl _ w).alloc (Nat.le_refl _) _).trans (hb.mono (by simp))
  have HO := Aside0.mk hold
  clear hold
  rcases kv_Get.find (fun x => x.f0.toList == a1.toList) l0 0 with ⟨hf, hi⟩ | ⟨j, hj, hf, hi⟩
  · rw [hf] at h
    cases h
    rw [show Lib.idxBy (fun _ (y : S47) => y.f0.toList == a1.toList) l0 default = -1 from hi] at hcon
    have HCON := Aside0.mk hcon
    clear hcon hi hf
    go_enter Try.func26, Try.ntmps26
    go_wp2_with fail
    refine HCON.out.mono ?_
    rintro e w' ⟨rfl, hb⟩
    have HB := Aside0.mk (HO.out w' hb)
    clear hb
    go_wp2_with fail
    go_ret2
    exact ⟨rfl, HB.out⟩
  · rw [hf] at h
    cases h
    rw [show Lib.idxBy (fun _ (y : S47) => y.f0.toList == a1.toList) l0 default = (j : Int) from by rw [show Lib.idxBy (fun _ (y : S47) => y.f0.toList == a1.toList) l0 default = _ from hi, Nat.zero_add]] at hcon
    have HCON := Aside0.mk hcon
    clear hcon hi hf
    go_enter Try.func26, Try.ntmps26
    go_wp2_with fail
    refine HCON.out.mono ?_
    rintro e w' ⟨rfl, hb⟩
    have hB := HO.out w' hb
    have hc2 : w'.cell? ⟨b, o + j * 2 + 1, none⟩ = some (.string l0[j].f1) := (hB.cell (p := ⟨b, o + j * 2 + 1, none⟩) hbw).trans (HC.out j hj).2
    have HB := Aside0.mk hB
    clear hb hB
    go_wp2_with fail
    go_ret2
    exact ⟨rfl, HB.out⟩

end Go.Proofs.Ytbgndegdegfebaa.K
