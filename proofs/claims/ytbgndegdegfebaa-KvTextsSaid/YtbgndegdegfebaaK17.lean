-- PRINTED by print.py (a twelfth state) out of the translation. Not trusted: Lean checks it.
import Derived.Test.YtbgndegdegfebaaK0
import Derived.Test.YtbgndegdegfebaaK2
import Derived.Test.YtbgndegdegfebaaK5
import Derived.Test.YtbgndegdegfebaaK6
import Derived.Test.YtbgndegdegfebaaK8
import Derived.Test.YtbgndegdegfebaaK9
import Derived.Test.YtbgndegdegfebaaK10
import Derived.Test.YtbgndegdegfebaaK14
import Derived.Test.YtbgndegdegfebaaK16
namespace Go.Proofs.Ytbgndegdegfebaa.K
open Go.RowKit Go.Proofs.YtbgndegdegfebaaW.PrintWords Go.Proofs.YtbgndegdegfebaaW.PrintLast Go.Proofs.YtbgndegdegfebaaW.PrintMore
attribute [local go_sem] max2_int min2_int max_two min_two max_three min_three max_four min_four   -- for this text's walks alone
set_option linter.unusedVariables false
set_option linter.unusedSimpArgs false

/-! ### postilionlaw21_KvTexts: function 7 -/
mutual
def postilionlaw21_KvTexts.j0 : Nat → List (S47) → ByteArray → ByteArray → Bool → Option (Bool)
  | 0, _, _, _, _ => none
  | k + 1, x0, x1, x2, x32 => if x32 = true then ((postilionlaw21_awake.f k).bind fun t161 => (some t161)) else ((kv_Print.f k x0).bind fun bt162 => ((postilionref21_Print.f k x0).bind fun bt164 => ((kv_Parse.f k x1).bind fun bt166 => ((postilionref21_Parse.f k x1).bind fun bt170 => ((kv_Get.f x0 x2).bind fun bt174 => ((postilionref21_Get.f k x0 x2).bind fun bt176 => (if bt162.1.toList = bt164.1.toList then (if bt162.2 = bt164.2 then ((postilionref21_Same.f k bt166.1 bt170.1).bind fun t178 => (if t178 = true then (if bt166.2 = bt170.2 then (if bt174.1.toList = bt176.1.toList then (postilionlaw21_KvTexts.j1 k x0 (bt174.2 != bt176.2)) else (postilionlaw21_KvTexts.j1 k x0 true)) else (postilionlaw21_KvTexts.j1 k x0 true)) else (postilionlaw21_KvTexts.j1 k x0 true))) else (postilionlaw21_KvTexts.j1 k x0 true)) else (postilionlaw21_KvTexts.j1 k x0 true))))))))
def postilionlaw21_KvTexts.j1 : Nat → List (S47) → Bool → Option (Bool)
  | 0, _, _ => none
  | k + 1, x0, x94 => if x94 = true then (some false) else (postilionlaw21_KvTexts.l0 k x0 0)
def postilionlaw21_KvTexts.l0 : Nat → List (S47) → Int → Option (Bool)
  | 0, _, _ => none
  | k + 1, x0, x19 => if x19 < (x0.length : Int) then (if 0 ≤ x19 then ((kv_Check.f ((rd_T47 x0 x19).f0) ((rd_T47 x0 x19).f1)).bind fun t181 => ((postilionref21_Check.f k ((rd_T47 x0 x19).f0) ((rd_T47 x0 x19).f1)).bind fun t183 => (if t181 = t183 then (postilionlaw21_KvTexts.l0 k x0 (wrap64 (x19 + 1))) else (some false)))) else (none)) else ((postilionlaw21_awake.f k).bind fun t179 => (some t179))
end
def postilionlaw21_KvTexts.f (k : Nat) (l0 : List (S47)) (a1 : ByteArray) (a2 : ByteArray) : Option (Bool) := (postilionref21_Few.f k l0).bind fun t160 => (if t160 = true then (if (a1.size : Int) > 600 then (postilionlaw21_KvTexts.j0 k l0 a1 a2 true) else (postilionlaw21_KvTexts.j0 k l0 a1 a2 (decide ((a2.size : Int) > 100)))) else (postilionlaw21_KvTexts.j0 k l0 a1 a2 true))
theorem postilionlaw21_KvTexts.mono_l : ∀ k, (∀ y0 y1 y2 y3, LeO (postilionlaw21_KvTexts.j0 k y0 y1 y2 y3) (postilionlaw21_KvTexts.j0 (k + 1) y0 y1 y2 y3)) ∧ (∀ y0 y1, LeO (postilionlaw21_KvTexts.j1 k y0 y1) (postilionlaw21_KvTexts.j1 (k + 1) y0 y1)) ∧ (∀ y0 y1, LeO (postilionlaw21_KvTexts.l0 k y0 y1) (postilionlaw21_KvTexts.l0 (k + 1) y0 y1))
  | 0 => ⟨fun _ _ _ _ r h => by simp [postilionlaw21_KvTexts.j0] at h, fun _ _ r h => by simp [postilionlaw21_KvTexts.j1] at h, fun _ _ r h => by simp [postilionlaw21_KvTexts.l0] at h⟩
  | k + 1 => by
    obtain ⟨ih0, ih1, ih2⟩ := postilionlaw21_KvTexts.mono_l k
    refine ⟨?_, ?_, ?_⟩
    · intro y0 y1 y2 y3
      unfold postilionlaw21_KvTexts.j0
      repeat' first
      | (with_reducible exact ih0 _ _ _ _)
      | (with_reducible exact ih1 _ _)
      | (with_reducible exact ih2 _ _)
      | (with_reducible exact kv_Parse.mono _ _)
      | (with_reducible exact kv_Print.mono _ _)
      | (with_reducible exact postilionlaw21_awake.mono _)
      | (with_reducible exact postilionref21_Check.mono _ _ _)
      | (with_reducible exact postilionref21_Few.mono _ _)
      | (with_reducible exact postilionref21_Get.mono _ _ _)
      | (with_reducible exact postilionref21_Parse.mono _ _)
      | (with_reducible exact postilionref21_Print.mono _ _)
      | (with_reducible exact postilionref21_Same.mono _ _ _)
      | (with_reducible exact LeO.refl _)
      | (with_reducible exact LeO.none _)
      | (with_reducible refine LeO.ite ?_ ?_)
      | (with_reducible refine LeO.bind ?_ (fun _ => ?_))
      | exact ih0 _ _ _ _
      | exact ih1 _ _
      | exact ih2 _ _
      | exact kv_Parse.mono _ _
      | exact kv_Print.mono _ _
      | exact postilionlaw21_awake.mono _
      | exact postilionref21_Check.mono _ _ _
      | exact postilionref21_Few.mono _ _
      | exact postilionref21_Get.mono _ _ _
      | exact postilionref21_Parse.mono _ _
      | exact postilionref21_Print.mono _ _
      | exact postilionref21_Same.mono _ _ _
      | exact LeO.none _
      | refine LeO.ite ?_ ?_
      | refine LeO.bind ?_ (fun _ => ?_)
    · intro y0 y1
      unfold postilionlaw21_KvTexts.j1
      repeat' first
      | (with_reducible exact ih0 _ _ _ _)
      | (with_reducible exact ih1 _ _)
      | (with_reducible exact ih2 _ _)
      | (with_reducible exact kv_Parse.mono _ _)
      | (with_reducible exact kv_Print.mono _ _)
      | (with_reducible exact postilionlaw21_awake.mono _)
      | (with_reducible exact postilionref21_Check.mono _ _ _)
      | (with_reducible exact postilionref21_Few.mono _ _)
      | (with_reducible exact postilionref21_Get.mono _ _ _)
      | (with_reducible exact postilionref21_Parse.mono _ _)
      | (with_reducible exact postilionref21_Print.mono _ _)
      | (with_reducible exact postilionref21_Same.mono _ _ _)
      | (with_reducible exact LeO.refl _)
      | (with_reducible exact LeO.none _)
      | (with_reducible refine LeO.ite ?_ ?_)
      | (with_reducible refine LeO.bind ?_ (fun _ => ?_))
      | exact ih0 _ _ _ _
      | exact ih1 _ _
      | exact ih2 _ _
      | exact kv_Parse.mono _ _
      | exact kv_Print.mono _ _
      | exact postilionlaw21_awake.mono _
      | exact postilionref21_Check.mono _ _ _
      | exact postilionref21_Few.mono _ _
      | exact postilionref21_Get.mono _ _ _
      | exact postilionref21_Parse.mono _ _
      | exact postilionref21_Print.mono _ _
      | exact postilionref21_Same.mono _ _ _
      | exact LeO.none _
      | refine LeO.ite ?_ ?_
      | refine LeO.bind ?_ (fun _ => ?_)
    · intro y0 y1
      unfold postilionlaw21_KvTexts.l0
      repeat' first
      | (with_reducible exact ih0 _ _ _ _)
      | (with_reducible exact ih1 _ _)
      | (with_reducible exact ih2 _ _)
      | (with_reducible exact kv_Parse.mono _ _)
      | (with_reducible exact kv_Print.mono _ _)
      | (with_reducible exact postilionlaw21_awake.mono _)
      | (with_reducible exact postilionref21_Check.mono _ _ _)
      | (with_reducible exact postilionref21_Few.mono _ _)
      | (with_reducible exact postilionref21_Get.mono _ _ _)
      | (with_reducible exact postilionref21_Parse.mono _ _)
      | (with_reducible exact postilionref21_Print.mono _ _)
      | (with_reducible exact postilionref21_Same.mono _ _ _)
      | (with_reducible exact LeO.refl _)
      | (with_reducible exact LeO.none _)
      | (with_reducible refine LeO.ite ?_ ?_)
      | (with_reducible refine LeO.bind ?_ (fun _ => ?_))
      | exact ih0 _ _ _ _
      | exact ih1 _ _
      | exact ih2 _ _
      | exact kv_Parse.mono _ _
      | exact kv_Print.mono _ _
      | exact postilionlaw21_awake.mono _
      | exact postilionref21_Check.mono _ _ _
      | exact postilionref21_Few.mono _ _
      | exact postilionref21_Get.mono _ _ _
      | exact postilionref21_Parse.mono _ _
      | exact postilionref21_Print.mono _ _
      | exact postilionref21_Same.mono _ _ _
      | exact LeO.none _
      | refine LeO.ite ?_ ?_
      | refine LeO.bind ?_ (fun _ => ?_)
theorem postilionlaw21_KvTexts.mono : ∀ a0 a1 a2 k, LeO (postilionlaw21_KvTexts.f k a0 a1 a2) (postilionlaw21_KvTexts.f (k + 1) a0 a1 a2) := by
  intro a0 a1 a2 k
  obtain ⟨ih0, ih1, ih2⟩ := postilionlaw21_KvTexts.mono_l k
  unfold postilionlaw21_KvTexts.f
  repeat' first
      | (with_reducible exact ih0 _ _ _ _)
      | (with_reducible exact ih1 _ _)
      | (with_reducible exact ih2 _ _)
      | (with_reducible exact kv_Parse.mono _ _)
      | (with_reducible exact kv_Print.mono _ _)
      | (with_reducible exact postilionlaw21_awake.mono _)
      | (with_reducible exact postilionref21_Check.mono _ _ _)
      | (with_reducible exact postilionref21_Few.mono _ _)
      | (with_reducible exact postilionref21_Get.mono _ _ _)
      | (with_reducible exact postilionref21_Parse.mono _ _)
      | (with_reducible exact postilionref21_Print.mono _ _)
      | (with_reducible exact postilionref21_Same.mono _ _ _)
      | (with_reducible exact LeO.refl _)
      | (with_reducible exact LeO.none _)
      | (with_reducible refine LeO.ite ?_ ?_)
      | (with_reducible refine LeO.bind ?_ (fun _ => ?_))
      | exact ih0 _ _ _ _
      | exact ih1 _ _
      | exact ih2 _ _
      | exact kv_Parse.mono _ _
      | exact kv_Print.mono _ _
      | exact postilionlaw21_awake.mono _
      | exact postilionref21_Check.mono _ _ _
      | exact postilionref21_Few.mono _ _
      | exact postilionref21_Get.mono _ _ _
      | exact postilionref21_Parse.mono _ _
      | exact postilionref21_Print.mono _ _
      | exact postilionref21_Same.mono _ _ _
      | exact LeO.none _
      | refine LeO.ite ?_ ?_
      | refine LeO.bind ?_ (fun _ => ?_)
def postilionlaw21_KvTexts.T14 : Bool × List (List Nat × List Nat) := (true, [([], []), ([], []), ([0, 1], [0, 1]), ([2], [2]), ([3], [3]), ([], []), ([], []), ([5, 6], [5, 6]), ([7], [7]), ([8, 4], [8]), ([4, 9], [4, 9])])
def postilionlaw21_KvTexts.B14 : List Nat := [0, 0, 3, 7, 15, 0, 0, 96, 224, 511, 1023]
theorem postilionlaw21_KvTexts.tab14 : rtab .any (opsOf Try.f7 14) = postilionlaw21_KvTexts.T14 := by kernel_rfl
theorem postilionlaw21_KvTexts.bits14 : waitsOk postilionlaw21_KvTexts.T14.2 postilionlaw21_KvTexts.B14 = true := by kernel_rfl
set_option maxHeartbeats 8000000 in
set_option maxRecDepth 100000 in
theorem postilionlaw21_KvTexts.calls (k : Nat) (A0 : Option Addr) (c0 : Nat) (l0 : List (S47)) (a1 : ByteArray) (a2 : ByteArray) (r : Bool) (w : World) (hr0 : Kd.C k47 w A0 l0.length l0) (hc0 : l0.length ≤ c0) (HE : Env w) (h : postilionlaw21_KvTexts.f k l0 a1 a2 = some r) :
    Calls Try.prog 7 #[.slice A0 l0.length c0, .string a1, .string a2] w fun e w' => e = .returned (.bool r) ∧ Below w.heap.size w w' := by
  have hu47 := Try.underlying47
  have HR0 := Aside0.mk hr0
  have HC0 := Aside0.mk hc0
  clear hr0 hc0
  have HENV := Aside0.mk HE
  clear HE
  have HB := Aside0.mk (Below.refl w.heap.size w)
  have H : ((postilionref21_Few.f k l0).bind fun t160 => (if t160 = true then (if (a1.size : Int) > 600 then (postilionlaw21_KvTexts.j0 k l0 a1 a2 true) else (postilionlaw21_KvTexts.j0 k l0 a1 a2 (decide ((a2.size : Int) > 100)))) else (postilionlaw21_KvTexts.j0 k l0 a1 a2 true))) = some r := h
  clear h
  have HC4 := Aside0.mk H
  clear H
  go_enter Try.func7, Try.ntmps7
  go_upto_region 1 with (fail)
  go_cut [32] (fun v32 wc => ∃ (kq : Nat) (x32_3 : Bool), v32 = .bool x32_3 ∧ Aside0 (postilionlaw21_KvTexts.j0 kq l0 a1 a2 x32_3 = some r) ∧ Aside0 (kq ≤ k) ∧ Aside0 (Below w.heap.size w wc))
  case first =>
    have H := HC4.out
    clear HC4
    replace H := Option.bind_eq_some_iff.mp H
    obtain ⟨t160, A50, H⟩ := H
    replace H : (if t160 = true then (if (a1.size : Int) > 600 then (postilionlaw21_KvTexts.j0 k l0 a1 a2 true) else (postilionlaw21_KvTexts.j0 k l0 a1 a2 (decide ((a2.size : Int) > 100)))) else (postilionlaw21_KvTexts.j0 k l0 a1 a2 true)) = some r := H
    have A5 := Aside0.mk A50
    clear A50
    by_cases c6 : t160 = true
    · subst c6
      have H1 : (if (a1.size : Int) > 600 then (postilionlaw21_KvTexts.j0 k l0 a1 a2 true) else (postilionlaw21_KvTexts.j0 k l0 a1 a2 (decide ((a2.size : Int) > 100)))) = some r := by rw [if_pos rfl] at H; exact H
      clear H
      have H := H1
      clear H1
      by_cases c7 : (a1.size : Int) > 600
      · rw [if_pos c7] at H
        have c7b0 : decide (600 < (a1.size : Int)) = true := decide_eq_true c7
        have c7b1 : decide (600 < a1.size) = true := decide_eq_true (by omega)
        clear c7
        (first | rw [c7b0] | (simp only [i64_w, i32_w]; rw [c7b0]) | skip)
        have H' := Aside0.mk H
        clear H
        go_wp2_with (first | ((with_reducible refine gate_callee (f := 20) rfl ?_); refine goesL_ (some 21) rfl rfl Try.func20 (by kernel_rfl) rfl #[.slice A0 l0.length c0] rfl (by (try simp only [List.map_toArray, List.map_cons, List.map_nil]); first | done | rfl | (simp only [List.length_drop, List.length_take]; rfl)) ?_; (with_reducible refine (postilionref21_Few.calls k _ _ l0 true _ ?side1 ?side2 A5.out).mono ?_); (case side1 => repeat (first | exact (Kd.C_below HR0.out HB.out) | (with_reducible refine Kd.C_alloc ?_ _) | (with_reducible refine Kd.C_drewN ?_ _) | (with_reducible refine Kd.C_drew ?_))); (case side2 => exact HC0.out); rintro e w' ⟨rfl, ⟨nd, rfl⟩⟩; refine ⟨_, rfl, ?_⟩))
        go_meet
        case rel => exact ⟨_, (true), (by first | rfl | (simp; done) | (simp [*]; done)), H', ⟨by first | omega | exact Nat.le_refl _⟩, ⟨by repeat (first | (with_reducible first | exact HB.out | apply below_alloc | apply pw_below_drewN | apply below_drew1) | exact HB.out)⟩⟩
      · rw [if_neg c7] at H
        have c7b0 : decide (600 < (a1.size : Int)) = false := decide_eq_false c7
        have c7b1 : decide (600 < a1.size) = false := decide_eq_false (by omega)
        clear c7
        (first | rw [c7b0] | (simp only [i64_w, i32_w]; rw [c7b0]) | skip)
        have H' := Aside0.mk H
        clear H
        go_wp2_with (first | ((with_reducible refine gate_callee (f := 20) rfl ?_); refine goesL_ (some 21) rfl rfl Try.func20 (by kernel_rfl) rfl #[.slice A0 l0.length c0] rfl (by (try simp only [List.map_toArray, List.map_cons, List.map_nil]); first | done | rfl | (simp only [List.length_drop, List.length_take]; rfl)) ?_; (with_reducible refine (postilionref21_Few.calls k _ _ l0 true _ ?side1 ?side2 A5.out).mono ?_); (case side1 => repeat (first | exact (Kd.C_below HR0.out HB.out) | (with_reducible refine Kd.C_alloc ?_ _) | (with_reducible refine Kd.C_drewN ?_ _) | (with_reducible refine Kd.C_drew ?_))); (case side2 => exact HC0.out); rintro e w' ⟨rfl, ⟨nd, rfl⟩⟩; refine ⟨_, rfl, ?_⟩))
        go_meet
        case rel => exact ⟨_, (decide ((a2.size : Int) > 100)), (by first | rfl | (simp; done) | (simp [*]; done)), H', ⟨by first | omega | exact Nat.le_refl _⟩, ⟨by repeat (first | (with_reducible first | exact HB.out | apply below_alloc | apply pw_below_drewN | apply below_drew1) | exact HB.out)⟩⟩
    · replace c6 := Bool.eq_false_iff.mpr c6
      subst c6
      have H1 : (postilionlaw21_KvTexts.j0 k l0 a1 a2 true) = some r := by rw [if_neg (show ¬ (false = true) by decide)] at H; exact H
      clear H
      have H := H1
      clear H1
      have H' := Aside0.mk H
      clear H
      go_wp2_with (first | ((with_reducible refine gate_callee (f := 20) rfl ?_); refine goesL_ (some 21) rfl rfl Try.func20 (by kernel_rfl) rfl #[.slice A0 l0.length c0] rfl (by (try simp only [List.map_toArray, List.map_cons, List.map_nil]); first | done | rfl | (simp only [List.length_drop, List.length_take]; rfl)) ?_; (with_reducible refine (postilionref21_Few.calls k _ _ l0 false _ ?side1 ?side2 A5.out).mono ?_); (case side1 => repeat (first | exact (Kd.C_below HR0.out HB.out) | (with_reducible refine Kd.C_alloc ?_ _) | (with_reducible refine Kd.C_drewN ?_ _) | (with_reducible refine Kd.C_drew ?_))); (case side2 => exact HC0.out); rintro e w' ⟨rfl, ⟨nd, rfl⟩⟩; refine ⟨_, rfl, ?_⟩))
      go_meet
      case rel => exact ⟨_, (true), (by first | rfl | (simp; done) | (simp [*]; done)), H', ⟨by first | omega | exact Nat.le_refl _⟩, ⟨by repeat (first | (with_reducible first | exact HB.out | apply below_alloc | apply pw_below_drewN | apply below_drew1) | exact HB.out)⟩⟩
  case rest =>
    clear HC4
    try clear c2
    try clear p2
    try clear c6
    try clear c7
    try clear c7b0
    try clear c7b1
    obtain ⟨kq, x32_3, rfl, HA, HJ3, HB⟩ := hcut
    cases kq with
    | zero => exact absurd HA.out (by simp [postilionlaw21_KvTexts.j0])
    | succ kj3 =>
      have H := HA.out
      clear HA
      simp only [postilionlaw21_KvTexts.j0] at H
      by_cases c8 : x32_3 = true
      · subst c8
        have H1 : ((postilionlaw21_awake.f kj3).bind fun t161 => (some t161)) = some r := by rw [if_pos rfl] at H; exact H
        clear H
        have H := H1
        clear H1
        replace H := Option.bind_eq_some_iff.mp H
        obtain ⟨t161, A90, H⟩ := H
        replace H : (some t161) = some r := H
        have A9 := Aside0.mk A90
        clear A90
        obtain rfl := Option.some.inj H
        go_wp2_with (first | ((with_reducible refine gate_callee (f := 21) rfl ?_); refine goesL_ (some 33) rfl rfl Try.func21 (by kernel_rfl) rfl #[] rfl (by (try simp only [List.map_toArray, List.map_cons, List.map_nil]); first | done | rfl | (simp only [List.length_drop, List.length_take]; rfl)) ?_; (with_reducible refine (postilionlaw21_awake.calls kj3  t161 _ ?side1 A9.out).mono ?_); (case side1 => first | exact HENV.out | exact Env.below HENV.out (by repeat (first | (with_reducible first | exact HB.out | apply below_alloc | apply pw_below_drewN | apply below_drew1) | exact HB.out)) | exact Env.drewN HENV.out _ | exact Env.drawn HENV.out (by assumption)); rintro e w10 ⟨rfl, hb⟩; refine ⟨_, rfl, ?_⟩; have n0_ := Aside0.mk (below_step (by repeat (first | (with_reducible first | exact HB.out | apply below_alloc | apply pw_below_drewN | apply below_drew1) | exact HB.out)) hb); clear HB; have HB := n0_; clear n0_; (try clear hb); (try clear hb2); (try clear hk); (try clear hi)))
        go_ret
        exact ⟨by first | rfl | (simp [errW_none, errW_some] <;> rfl) | (simp [*, errW_none, errW_some] <;> rfl), by repeat (first | (with_reducible first | exact HB.out | apply below_alloc | apply pw_below_drewN | apply below_drew1) | exact HB.out)⟩
      · replace c8 := Bool.eq_false_iff.mpr c8
        subst c8
        have H1 : ((kv_Print.f kj3 l0).bind fun bt162 => ((postilionref21_Print.f kj3 l0).bind fun bt164 => ((kv_Parse.f kj3 a1).bind fun bt166 => ((postilionref21_Parse.f kj3 a1).bind fun bt170 => ((kv_Get.f l0 a2).bind fun bt174 => ((postilionref21_Get.f kj3 l0 a2).bind fun bt176 => (if bt162.1.toList = bt164.1.toList then (if bt162.2 = bt164.2 then ((postilionref21_Same.f kj3 bt166.1 bt170.1).bind fun t178 => (if t178 = true then (if bt166.2 = bt170.2 then (if bt174.1.toList = bt176.1.toList then (postilionlaw21_KvTexts.j1 kj3 l0 (bt174.2 != bt176.2)) else (postilionlaw21_KvTexts.j1 kj3 l0 true)) else (postilionlaw21_KvTexts.j1 kj3 l0 true)) else (postilionlaw21_KvTexts.j1 kj3 l0 true))) else (postilionlaw21_KvTexts.j1 kj3 l0 true)) else (postilionlaw21_KvTexts.j1 kj3 l0 true)))))))) = some r := by rw [if_neg (show ¬ (false = true) by decide)] at H; exact H
        clear H
        have H := H1
        clear H1
        replace H := Option.bind_eq_some_iff.mp H
        obtain ⟨⟨t162, t163⟩, A110, H⟩ := H
        replace H : ((postilionref21_Print.f kj3 l0).bind fun bt164 => ((kv_Parse.f kj3 a1).bind fun bt166 => ((postilionref21_Parse.f kj3 a1).bind fun bt170 => ((kv_Get.f l0 a2).bind fun bt174 => ((postilionref21_Get.f kj3 l0 a2).bind fun bt176 => (if t162.toList = bt164.1.toList then (if t163 = bt164.2 then ((postilionref21_Same.f kj3 bt166.1 bt170.1).bind fun t178 => (if t178 = true then (if bt166.2 = bt170.2 then (if bt174.1.toList = bt176.1.toList then (postilionlaw21_KvTexts.j1 kj3 l0 (bt174.2 != bt176.2)) else (postilionlaw21_KvTexts.j1 kj3 l0 true)) else (postilionlaw21_KvTexts.j1 kj3 l0 true)) else (postilionlaw21_KvTexts.j1 kj3 l0 true))) else (postilionlaw21_KvTexts.j1 kj3 l0 true)) else (postilionlaw21_KvTexts.j1 kj3 l0 true))))))) = some r := H
        have A11 := Aside0.mk A110
        clear A110
        replace H := Option.bind_eq_some_iff.mp H
        obtain ⟨⟨t164, t165⟩, A120, H⟩ := H
        replace H : ((kv_Parse.f kj3 a1).bind fun bt166 => ((postilionref21_Parse.f kj3 a1).bind fun bt170 => ((kv_Get.f l0 a2).bind fun bt174 => ((postilionref21_Get.f kj3 l0 a2).bind fun bt176 => (if t162.toList = t164.toList then (if t163 = t165 then ((postilionref21_Same.f kj3 bt166.1 bt170.1).bind fun t178 => (if t178 = true then (if bt166.2 = bt170.2 then (if bt174.1.toList = bt176.1.toList then (postilionlaw21_KvTexts.j1 kj3 l0 (bt174.2 != bt176.2)) else (postilionlaw21_KvTexts.j1 kj3 l0 true)) else (postilionlaw21_KvTexts.j1 kj3 l0 true)) else (postilionlaw21_KvTexts.j1 kj3 l0 true))) else (postilionlaw21_KvTexts.j1 kj3 l0 true)) else (postilionlaw21_KvTexts.j1 kj3 l0 true)))))) = some r := H
        have A12 := Aside0.mk A120
        clear A120
        replace H := Option.bind_eq_some_iff.mp H
        obtain ⟨⟨t166, t167⟩, A130, H⟩ := H
        replace H : ((postilionref21_Parse.f kj3 a1).bind fun bt170 => ((kv_Get.f l0 a2).bind fun bt174 => ((postilionref21_Get.f kj3 l0 a2).bind fun bt176 => (if t162.toList = t164.toList then (if t163 = t165 then ((postilionref21_Same.f kj3 t166 bt170.1).bind fun t178 => (if t178 = true then (if t167 = bt170.2 then (if bt174.1.toList = bt176.1.toList then (postilionlaw21_KvTexts.j1 kj3 l0 (bt174.2 != bt176.2)) else (postilionlaw21_KvTexts.j1 kj3 l0 true)) else (postilionlaw21_KvTexts.j1 kj3 l0 true)) else (postilionlaw21_KvTexts.j1 kj3 l0 true))) else (postilionlaw21_KvTexts.j1 kj3 l0 true)) else (postilionlaw21_KvTexts.j1 kj3 l0 true))))) = some r := H
        have A13 := Aside0.mk A130
        clear A130
        replace H := Option.bind_eq_some_iff.mp H
        obtain ⟨⟨t170, t171⟩, A140, H⟩ := H
        replace H : ((kv_Get.f l0 a2).bind fun bt174 => ((postilionref21_Get.f kj3 l0 a2).bind fun bt176 => (if t162.toList = t164.toList then (if t163 = t165 then ((postilionref21_Same.f kj3 t166 t170).bind fun t178 => (if t178 = true then (if t167 = t171 then (if bt174.1.toList = bt176.1.toList then (postilionlaw21_KvTexts.j1 kj3 l0 (bt174.2 != bt176.2)) else (postilionlaw21_KvTexts.j1 kj3 l0 true)) else (postilionlaw21_KvTexts.j1 kj3 l0 true)) else (postilionlaw21_KvTexts.j1 kj3 l0 true))) else (postilionlaw21_KvTexts.j1 kj3 l0 true)) else (postilionlaw21_KvTexts.j1 kj3 l0 true)))) = some r := H
        have A14 := Aside0.mk A140
        clear A140
        replace H := Option.bind_eq_some_iff.mp H
        obtain ⟨⟨t174, t175⟩, A150, H⟩ := H
        replace H : ((postilionref21_Get.f kj3 l0 a2).bind fun bt176 => (if t162.toList = t164.toList then (if t163 = t165 then ((postilionref21_Same.f kj3 t166 t170).bind fun t178 => (if t178 = true then (if t167 = t171 then (if t174.toList = bt176.1.toList then (postilionlaw21_KvTexts.j1 kj3 l0 (t175 != bt176.2)) else (postilionlaw21_KvTexts.j1 kj3 l0 true)) else (postilionlaw21_KvTexts.j1 kj3 l0 true)) else (postilionlaw21_KvTexts.j1 kj3 l0 true))) else (postilionlaw21_KvTexts.j1 kj3 l0 true)) else (postilionlaw21_KvTexts.j1 kj3 l0 true))) = some r := H
        have A15 := Aside0.mk A150
        clear A150
        replace H := Option.bind_eq_some_iff.mp H
        obtain ⟨⟨t176, t177⟩, A160, H⟩ := H
        replace H : (if t162.toList = t164.toList then (if t163 = t165 then ((postilionref21_Same.f kj3 t166 t170).bind fun t178 => (if t178 = true then (if t167 = t171 then (if t174.toList = t176.toList then (postilionlaw21_KvTexts.j1 kj3 l0 (t175 != t177)) else (postilionlaw21_KvTexts.j1 kj3 l0 true)) else (postilionlaw21_KvTexts.j1 kj3 l0 true)) else (postilionlaw21_KvTexts.j1 kj3 l0 true))) else (postilionlaw21_KvTexts.j1 kj3 l0 true)) else (postilionlaw21_KvTexts.j1 kj3 l0 true)) = some r := H
        have A16 := Aside0.mk A160
        clear A160
        have HC17 := Aside0.mk H
        clear H
        go_upto_region 9 with (first | ((with_reducible refine gate_callee (f := 22) rfl ?_); refine goesL_ (some 36) rfl rfl Try.func22 (by kernel_rfl) rfl #[.slice A0 l0.length c0] rfl (by (try simp only [List.map_toArray, List.map_cons, List.map_nil]); first | done | rfl | (simp only [List.length_drop, List.length_take]; rfl)) ?_; (with_reducible refine (kv_Print.calls kj3 _ _ l0 t162 t163 _ ?side1 ?side2 A11.out).mono ?_); (case side1 => repeat (first | exact (Kd.C_below HR0.out HB.out) | (with_reducible refine Kd.C_alloc ?_ _) | (with_reducible refine Kd.C_drewN ?_ _) | (with_reducible refine Kd.C_drew ?_))); (case side2 => exact HC0.out); rintro e w18 ⟨rfl, hb⟩; refine ⟨_, rfl, ?_⟩; have n0_ := Aside0.mk (below_step (by repeat (first | (with_reducible first | exact HB.out | apply below_alloc | apply pw_below_drewN | apply below_drew1) | exact HB.out)) hb); clear HB; have HB := n0_; clear n0_; (try clear hb); (try clear hb2); (try clear hk); (try clear hi)) | ((with_reducible refine gate_callee (f := 23) rfl ?_); refine goesL_ (some 41) rfl rfl Try.func23 (by kernel_rfl) rfl #[.slice A0 l0.length c0] rfl (by (try simp only [List.map_toArray, List.map_cons, List.map_nil]); first | done | rfl | (simp only [List.length_drop, List.length_take]; rfl)) ?_; (with_reducible refine (postilionref21_Print.calls kj3 _ _ l0 t164 t165 _ ?side1 ?side2 A12.out).mono ?_); (case side1 => repeat (first | exact (Kd.C_below HR0.out HB.out) | (with_reducible refine Kd.C_alloc ?_ _) | (with_reducible refine Kd.C_drewN ?_ _) | (with_reducible refine Kd.C_drew ?_))); (case side2 => exact HC0.out); rintro e w19 ⟨rfl, hb⟩; refine ⟨_, rfl, ?_⟩; have n0_ := Aside0.mk (below_step (by repeat (first | (with_reducible first | exact HB.out | apply below_alloc | apply pw_below_drewN | apply below_drew1) | exact HB.out)) hb); clear HB; have HB := n0_; clear n0_; (try clear hb); (try clear hb2); (try clear hk); (try clear hi)) | ((with_reducible refine gate_callee (f := 24) rfl ?_); refine goesL_ (some 46) rfl rfl Try.func24 (by kernel_rfl) rfl #[.string a1] rfl (by (try simp only [List.map_toArray, List.map_cons, List.map_nil]); first | done | rfl | (simp only [List.length_drop, List.length_take]; rfl)) ?_; (with_reducible refine (kv_Parse.calls kj3 a1 t166 t167 _ ?side1 A13.out).mono ?_); (case side1 => first | exact HENV.out | exact Env.below HENV.out (by repeat (first | (with_reducible first | exact HB.out | apply below_alloc | apply pw_below_drewN | apply below_drew1) | exact HB.out)) | exact Env.drewN HENV.out _ | exact Env.drawn HENV.out (by assumption)); rintro e w20 ⟨v168, rfl, ho0, hb⟩; refine ⟨_, rfl, ?_⟩; have n0_ := Aside0.mk (Kd.R_lower ho0 (below_size (by repeat (first | (with_reducible first | exact HB.out | apply below_alloc | apply pw_below_drewN | apply below_drew1) | exact HB.out)))); have n1_ := Aside0.mk (below_step (by repeat (first | (with_reducible first | exact HB.out | apply below_alloc | apply pw_below_drewN | apply below_drew1) | exact HB.out)) hb); clear HB; have HO169 := n0_; have HB := n1_; clear n0_ n1_; (try clear hb); (try clear hb2); (try clear hk); (try clear hi); (try clear ho0)) | ((with_reducible refine gate_callee (f := 25) rfl ?_); refine goesL_ (some 51) rfl rfl Try.func25 (by kernel_rfl) rfl #[.string a1] rfl (by (try simp only [List.map_toArray, List.map_cons, List.map_nil]); first | done | rfl | (simp only [List.length_drop, List.length_take]; rfl)) ?_; (with_reducible refine (postilionref21_Parse.calls kj3 a1 t170 t171 _ A14.out).mono ?_); rintro e w21 ⟨v172, rfl, ho0, hb⟩; refine ⟨_, rfl, ?_⟩; have n0_ := Aside0.mk (Kd.R_elder' (by (with_reducible repeat (first | apply Kd.R_alloc | apply Kd.R_drewN | apply Kd.R_drew)); exact HO169.out) (Kd.R_base ho0) hb); have n1_ := Aside0.mk (Kd.R_lower (Kd.R_new' ho0 (Kd.R_lt (by (with_reducible repeat (first | apply Kd.R_alloc | apply Kd.R_drewN | apply Kd.R_drew)); exact HO169.out))) (below_size (by repeat (first | (with_reducible first | exact HB.out | apply below_alloc | apply pw_below_drewN | apply below_drew1) | exact HB.out)))); have n2_ := Aside0.mk (below_step (by repeat (first | (with_reducible first | exact HB.out | apply below_alloc | apply pw_below_drewN | apply below_drew1) | exact HB.out)) hb); clear HO169; clear HB; have HO169 := n0_; have HO173 := n1_; have HB := n2_; clear n0_ n1_ n2_; (try clear hb); (try clear hb2); (try clear hk); (try clear hi); (try clear ho0)) | ((with_reducible refine gate_callee (f := 26) rfl ?_); refine goesL_ (some 57) rfl rfl Try.func26 (by kernel_rfl) rfl #[.slice A0 l0.length c0, .string a2] rfl (by (try simp only [List.map_toArray, List.map_cons, List.map_nil]); first | done | rfl | (simp only [List.length_drop, List.length_take]; rfl)) ?_; (with_reducible refine (kv_Get.calls _ _ l0 a2 t174 t175 _ ?side1 ?side2 A15.out).mono ?_); (case side1 => repeat (first | exact (Kd.C_below HR0.out HB.out) | (with_reducible refine Kd.C_alloc ?_ _) | (with_reducible refine Kd.C_drewN ?_ _) | (with_reducible refine Kd.C_drew ?_))); (case side2 => exact HC0.out); rintro e w22 ⟨rfl, hb⟩; refine ⟨_, rfl, ?_⟩; have n0_ := Aside0.mk (Kd.R_below (by (with_reducible repeat (first | apply Kd.R_alloc | apply Kd.R_drewN | apply Kd.R_drew)); exact HO169.out) hb); have n1_ := Aside0.mk (Kd.R_below (by (with_reducible repeat (first | apply Kd.R_alloc | apply Kd.R_drewN | apply Kd.R_drew)); exact HO173.out) hb); have n2_ := Aside0.mk (below_step (by repeat (first | (with_reducible first | exact HB.out | apply below_alloc | apply pw_below_drewN | apply below_drew1) | exact HB.out)) hb); clear HO169; clear HO173; clear HB; have HO169 := n0_; have HO173 := n1_; have HB := n2_; clear n0_ n1_ n2_; (try clear hb); (try clear hb2); (try clear hk); (try clear hi)) | ((with_reducible refine gate_callee (f := 27) rfl ?_); refine goesL_ (some 63) rfl rfl Try.func27 (by kernel_rfl) rfl #[.slice A0 l0.length c0, .string a2] rfl (by (try simp only [List.map_toArray, List.map_cons, List.map_nil]); first | done | rfl | (simp only [List.length_drop, List.length_take]; rfl)) ?_; (with_reducible refine (postilionref21_Get.calls kj3 _ _ l0 a2 t176 t177 _ ?side1 ?side2 A16.out).mono ?_); (case side1 => repeat (first | exact (Kd.C_below HR0.out HB.out) | (with_reducible refine Kd.C_alloc ?_ _) | (with_reducible refine Kd.C_drewN ?_ _) | (with_reducible refine Kd.C_drew ?_))); (case side2 => exact HC0.out); rintro e w' ⟨rfl, ⟨nd, rfl⟩⟩; refine ⟨_, rfl, ?_⟩))
        (try simp only [Act.put, List.setIfInBounds_toArray, List.set_cons_zero, List.set_cons_succ])
        go_cut [94] (fun v94 wc => ∃ (kq : Nat) (x94_16 : Bool), v94 = .bool x94_16 ∧ Aside0 (postilionlaw21_KvTexts.j1 kq l0 x94_16 = some r) ∧ Aside0 (kq ≤ kj3) ∧ Aside0 (Below w.heap.size w wc))
        case first =>
          have H := HC17.out
          clear HC17
          by_cases c23 : t162.toList = t164.toList
          · rw [if_pos c23] at H
            have c23b0 : (t162.toList == t164.toList) = true := beq_iff_eq.mpr c23
            have c23b1 : (t162.toList != t164.toList) = false := bne_eq_false_iff_eq.mpr c23
            clear c23
            (first | rw [c23b0] | (simp only [i64_w, i32_w]; rw [c23b0]) | skip)
            by_cases c24 : t163 = t165
            · rw [if_pos c24] at H
              have c24b0 : (t163 == t165) = true := beq_iff_eq.mpr c24
              have c24b1 : (t163 != t165) = false := bne_eq_false_iff_eq.mpr c24
              clear c24
              replace H := Option.bind_eq_some_iff.mp H
              obtain ⟨t178, A250, H⟩ := H
              replace H : (if t178 = true then (if t167 = t171 then (if t174.toList = t176.toList then (postilionlaw21_KvTexts.j1 kj3 l0 (t175 != t177)) else (postilionlaw21_KvTexts.j1 kj3 l0 true)) else (postilionlaw21_KvTexts.j1 kj3 l0 true)) else (postilionlaw21_KvTexts.j1 kj3 l0 true)) = some r := H
              have A25 := Aside0.mk A250
              clear A250
              by_cases c26 : t178 = true
              · subst c26
                have H1 : (if t167 = t171 then (if t174.toList = t176.toList then (postilionlaw21_KvTexts.j1 kj3 l0 (t175 != t177)) else (postilionlaw21_KvTexts.j1 kj3 l0 true)) else (postilionlaw21_KvTexts.j1 kj3 l0 true)) = some r := by rw [if_pos rfl] at H; exact H
                clear H
                have H := H1
                clear H1
                by_cases c27 : t167 = t171
                · rw [if_pos c27] at H
                  have c27b0 : (t167 == t171) = true := beq_iff_eq.mpr c27
                  have c27b1 : (t167 != t171) = false := bne_eq_false_iff_eq.mpr c27
                  clear c27
                  by_cases c28 : t174.toList = t176.toList
                  · rw [if_pos c28] at H
                    have c28b0 : (t174.toList == t176.toList) = true := beq_iff_eq.mpr c28
                    have c28b1 : (t174.toList != t176.toList) = false := bne_eq_false_iff_eq.mpr c28
                    clear c28
                    have H' := Aside0.mk H
                    clear H
                    obtain ⟨Ao29, co29, eo29⟩ := Kd.R_slice HO169.out
                    subst eo29
                    obtain ⟨Ao30, co30, eo30⟩ := Kd.R_slice HO173.out
                    subst eo30
                    go_wp2_with (first | (go_at_call 28; (with_reducible refine (postilionref21_Same.calls kj3 _ _ t166 _ _ t170 true _ ?side1 ?side2 ?side3 ?side4 A25.out).mono ?_); (case side1 => repeat (first | exact (Kd.R_reads' HO169.out).2.2 | (with_reducible refine Kd.C_alloc ?_ _) | (with_reducible refine Kd.C_drewN ?_ _) | (with_reducible refine Kd.C_drew ?_))); (case side2 => exact (Kd.R_reads' HO169.out).2.1); (case side3 => repeat (first | exact (Kd.R_reads' HO173.out).2.2 | (with_reducible refine Kd.C_alloc ?_ _) | (with_reducible refine Kd.C_drewN ?_ _) | (with_reducible refine Kd.C_drew ?_))); (case side4 => exact (Kd.R_reads' HO173.out).2.1); rintro e w' ⟨rfl, ⟨nd, rfl⟩⟩))
                    go_meet
                    case rel => exact ⟨_, ((t175 != t177)), (by first | rfl | (simp; done) | (simp [*]; done)), H', ⟨by have := HJ3.out; first | omega | exact Nat.le_refl _⟩, ⟨by repeat (first | (with_reducible first | exact HB.out | apply below_alloc | apply pw_below_drewN | apply below_drew1) | exact HB.out)⟩⟩
                  · rw [if_neg c28] at H
                    have c28b0 : (t174.toList == t176.toList) = false := beq_eq_false_iff_ne.mpr c28
                    have c28b1 : (t174.toList != t176.toList) = true := bne_iff_ne.mpr c28
                    have H' := Aside0.mk H
                    clear H
                    obtain ⟨Ao31, co31, eo31⟩ := Kd.R_slice HO169.out
                    subst eo31
                    obtain ⟨Ao32, co32, eo32⟩ := Kd.R_slice HO173.out
                    subst eo32
                    go_wp2_with (first | (go_at_call 28; (with_reducible refine (postilionref21_Same.calls kj3 _ _ t166 _ _ t170 true _ ?side1 ?side2 ?side3 ?side4 A25.out).mono ?_); (case side1 => repeat (first | exact (Kd.R_reads' HO169.out).2.2 | (with_reducible refine Kd.C_alloc ?_ _) | (with_reducible refine Kd.C_drewN ?_ _) | (with_reducible refine Kd.C_drew ?_))); (case side2 => exact (Kd.R_reads' HO169.out).2.1); (case side3 => repeat (first | exact (Kd.R_reads' HO173.out).2.2 | (with_reducible refine Kd.C_alloc ?_ _) | (with_reducible refine Kd.C_drewN ?_ _) | (with_reducible refine Kd.C_drew ?_))); (case side4 => exact (Kd.R_reads' HO173.out).2.1); rintro e w' ⟨rfl, ⟨nd, rfl⟩⟩))
                    go_meet
                    case rel => exact ⟨_, (true), (by first | rfl | (simp; done) | (simp [*]; done)), H', ⟨by have := HJ3.out; first | omega | exact Nat.le_refl _⟩, ⟨by repeat (first | (with_reducible first | exact HB.out | apply below_alloc | apply pw_below_drewN | apply below_drew1) | exact HB.out)⟩⟩
                · rw [if_neg c27] at H
                  have c27b0 : (t167 == t171) = false := beq_eq_false_iff_ne.mpr c27
                  have c27b1 : (t167 != t171) = true := bne_iff_ne.mpr c27
                  have H' := Aside0.mk H
                  clear H
                  obtain ⟨Ao33, co33, eo33⟩ := Kd.R_slice HO169.out
                  subst eo33
                  obtain ⟨Ao34, co34, eo34⟩ := Kd.R_slice HO173.out
                  subst eo34
                  go_wp2_with (first | (go_at_call 28; (with_reducible refine (postilionref21_Same.calls kj3 _ _ t166 _ _ t170 true _ ?side1 ?side2 ?side3 ?side4 A25.out).mono ?_); (case side1 => repeat (first | exact (Kd.R_reads' HO169.out).2.2 | (with_reducible refine Kd.C_alloc ?_ _) | (with_reducible refine Kd.C_drewN ?_ _) | (with_reducible refine Kd.C_drew ?_))); (case side2 => exact (Kd.R_reads' HO169.out).2.1); (case side3 => repeat (first | exact (Kd.R_reads' HO173.out).2.2 | (with_reducible refine Kd.C_alloc ?_ _) | (with_reducible refine Kd.C_drewN ?_ _) | (with_reducible refine Kd.C_drew ?_))); (case side4 => exact (Kd.R_reads' HO173.out).2.1); rintro e w' ⟨rfl, ⟨nd, rfl⟩⟩))
                  go_meet
                  case rel => exact ⟨_, (true), (by first | rfl | (simp; done) | (simp [*]; done)), H', ⟨by have := HJ3.out; first | omega | exact Nat.le_refl _⟩, ⟨by repeat (first | (with_reducible first | exact HB.out | apply below_alloc | apply pw_below_drewN | apply below_drew1) | exact HB.out)⟩⟩
              · replace c26 := Bool.eq_false_iff.mpr c26
                subst c26
                have H1 : (postilionlaw21_KvTexts.j1 kj3 l0 true) = some r := by rw [if_neg (show ¬ (false = true) by decide)] at H; exact H
                clear H
                have H := H1
                clear H1
                have H' := Aside0.mk H
                clear H
                obtain ⟨Ao35, co35, eo35⟩ := Kd.R_slice HO169.out
                subst eo35
                obtain ⟨Ao36, co36, eo36⟩ := Kd.R_slice HO173.out
                subst eo36
                go_wp2_with (first | (go_at_call 28; (with_reducible refine (postilionref21_Same.calls kj3 _ _ t166 _ _ t170 false _ ?side1 ?side2 ?side3 ?side4 A25.out).mono ?_); (case side1 => repeat (first | exact (Kd.R_reads' HO169.out).2.2 | (with_reducible refine Kd.C_alloc ?_ _) | (with_reducible refine Kd.C_drewN ?_ _) | (with_reducible refine Kd.C_drew ?_))); (case side2 => exact (Kd.R_reads' HO169.out).2.1); (case side3 => repeat (first | exact (Kd.R_reads' HO173.out).2.2 | (with_reducible refine Kd.C_alloc ?_ _) | (with_reducible refine Kd.C_drewN ?_ _) | (with_reducible refine Kd.C_drew ?_))); (case side4 => exact (Kd.R_reads' HO173.out).2.1); rintro e w' ⟨rfl, ⟨nd, rfl⟩⟩))
                go_meet
                case rel => exact ⟨_, (true), (by first | rfl | (simp; done) | (simp [*]; done)), H', ⟨by have := HJ3.out; first | omega | exact Nat.le_refl _⟩, ⟨by repeat (first | (with_reducible first | exact HB.out | apply below_alloc | apply pw_below_drewN | apply below_drew1) | exact HB.out)⟩⟩
            · rw [if_neg c24] at H
              have c24b0 : (t163 == t165) = false := beq_eq_false_iff_ne.mpr c24
              have c24b1 : (t163 != t165) = true := bne_iff_ne.mpr c24
              have H' := Aside0.mk H
              clear H
              go_wp2
              go_meet
              case rel => exact ⟨_, (true), (by first | rfl | (simp; done) | (simp [*]; done)), H', ⟨by have := HJ3.out; first | omega | exact Nat.le_refl _⟩, ⟨by repeat (first | (with_reducible first | exact HB.out | apply below_alloc | apply pw_below_drewN | apply below_drew1) | exact HB.out)⟩⟩
          · rw [if_neg c23] at H
            have c23b0 : (t162.toList == t164.toList) = false := beq_eq_false_iff_ne.mpr c23
            have c23b1 : (t162.toList != t164.toList) = true := bne_iff_ne.mpr c23
            (first | rw [c23b0] | (simp only [i64_w, i32_w]; rw [c23b0]) | skip)
            have H' := Aside0.mk H
            clear H
            go_wp2
            go_meet
            case rel => exact ⟨_, (true), (by first | rfl | (simp; done) | (simp [*]; done)), H', ⟨by have := HJ3.out; first | omega | exact Nat.le_refl _⟩, ⟨by repeat (first | (with_reducible first | exact HB.out | apply below_alloc | apply pw_below_drewN | apply below_drew1) | exact HB.out)⟩⟩
        case rest =>
          clear HC17
          try clear c2
          try clear p2
          try clear c6
          try clear c7
          try clear c7b0
          try clear c7b1
          try clear c8
          try clear c20
          try clear c21
          try clear c22
          try clear c23
          try clear c23b0
          try clear c23b1
          try clear c24
          try clear c24b0
          try clear c24b1
          try clear c25
          try clear c26
          try clear c27
          try clear c27b0
          try clear c27b1
          try clear c28
          try clear c28b0
          try clear c28b1
          try clear p2
          obtain ⟨kq, x94_16, rfl, HA, HJ16, HB⟩ := hcut
          cases kq with
          | zero => exact absurd HA.out (by simp [postilionlaw21_KvTexts.j1])
          | succ kj16 =>
            have H := HA.out
            clear HA
            simp only [postilionlaw21_KvTexts.j1] at H
            by_cases c37 : x94_16 = true
            · subst c37
              have H1 : (some false) = some r := by rw [if_pos rfl] at H; exact H
              clear H
              have H := H1
              clear H1
              obtain rfl := Option.some.inj H
              go_wp2
              go_ret
              exact ⟨by first | rfl | (simp [errW_none, errW_some] <;> rfl) | (simp [*, errW_none, errW_some] <;> rfl), by repeat (first | (with_reducible first | exact HB.out | apply below_alloc | apply pw_below_drewN | apply below_drew1) | exact HB.out)⟩
            · replace c37 := Bool.eq_false_iff.mpr c37
              subst c37
              have H1 : (postilionlaw21_KvTexts.l0 kj16 l0 0) = some r := by rw [if_neg (show ¬ (false = true) by decide)] at H; exact H
              clear H
              have H := H1
              clear H1
              have H' := Aside0.mk H
              clear H
              go_wp2
              go_loopg [19] kj16 (fun kq v19 w' => ∃ (x19_3 : Int), v19 = .int .i64 x19_3 ∧ Aside0 (postilionlaw21_KvTexts.l0 kq l0 x19_3 = some r) ∧ Aside0 (kq ≤ kj16) ∧ Aside0 (Below w.heap.size w w'))
              case atStart => exact ⟨(0), (by first | rfl | (simp; done) | (simp [*]; done)), H', ⟨Nat.le_refl _⟩, ⟨by repeat (first | (with_reducible first | exact HB.out | apply below_alloc | apply pw_below_drewN | apply below_drew1) | exact HB.out)⟩⟩
              case round =>
                clear H'
                try clear c2
                try clear p2
                try clear c3
                try clear c6
                try clear c7
                try clear c7b0
                try clear c7b1
                try clear c8
                try clear c20
                try clear c21
                try clear c22
                try clear c23
                try clear c23b0
                try clear c23b1
                try clear c24
                try clear c24b0
                try clear c24b1
                try clear c25
                try clear c26
                try clear c27
                try clear c27b0
                try clear c27b1
                try clear c28
                try clear c28b0
                try clear c28b1
                try clear c37
                try clear p2
                obtain ⟨x19_3, rfl, HA, HK3, HB⟩ := hrel
                cases gk with
                | zero => exact absurd HA.out (by simp [postilionlaw21_KvTexts.l0])
                | succ k3 =>
                  have H := HA.out
                  clear HA
                  simp only [postilionlaw21_KvTexts.l0] at H
                  by_cases c38 : x19_3 < (l0.length : Int)
                  · rw [if_pos c38] at H
                    have c38b0 : decide (x19_3 < (l0.length : Int)) = true := decide_eq_true c38
                    clear c38
                    by_cases c39 : 0 ≤ x19_3
                    · rw [if_pos c39] at H
                      have c39b0 : decide (0 ≤ x19_3) = true := decide_eq_true c39
                      clear c39
                      replace H := Option.bind_eq_some_iff.mp H
                      obtain ⟨t181, A400, H⟩ := H
                      replace H : ((postilionref21_Check.f k3 ((rd_T47 l0 x19_3).f0) ((rd_T47 l0 x19_3).f1)).bind fun t183 => (if t181 = t183 then (postilionlaw21_KvTexts.l0 k3 l0 (wrap64 (x19_3 + 1))) else (some false))) = some r := H
                      have A40 := Aside0.mk A400
                      clear A400
                      replace H := Option.bind_eq_some_iff.mp H
                      obtain ⟨t183, A410, H⟩ := H
                      replace H : (if t181 = t183 then (postilionlaw21_KvTexts.l0 k3 l0 (wrap64 (x19_3 + 1))) else (some false)) = some r := H
                      have A41 := Aside0.mk A410
                      clear A410
                      by_cases c42 : t181 = t183
                      · rw [if_pos c42] at H
                        have c42b0 : (t181 == t183) = true := beq_iff_eq.mpr c42
                        have c42b1 : (t181 != t183) = false := bne_eq_false_iff_eq.mpr c42
                        clear c42
                        have H' := Aside0.mk H
                        clear H
                        try go_wp2
                        have n0_ := Aside0.mk (below_drew1 HB.out)
                        clear HB
                        have HB := n0_
                        clear n0_
                        have p180 : 0 ≤ (x19_3 : Int) := of_decide_eq_true (by first | (with_reducible assumption) | assumption)
                        have q180 : x19_3 < (l0.length : Int) := of_decide_eq_true (by first | (with_reducible assumption) | assumption)
                        obtain ⟨ad180, e180, hx180_0, hx180_1⟩ := at_T47 HR0.out x19_3 p180 q180
                        have hw180_1 := hx180_1
                        have hw180_0 := hx180_0
                        cases e180
                        replace hx180_0 := (HB.out.cell (World.block_lt_of_cell? w _ hx180_0)).trans hx180_0
                        replace hx180_1 := (HB.out.cell (World.block_lt_of_cell? w _ hx180_1)).trans hx180_1
                        replace p180 := eq_true p180
                        replace q180 := eq_true q180
                        have p182 : 0 ≤ (x19_3 : Int) := of_decide_eq_true (by first | (with_reducible assumption) | assumption)
                        have q182 : x19_3 < (l0.length : Int) := of_decide_eq_true (by first | (with_reducible assumption) | assumption)
                        obtain ⟨ad182, e182, hx182_0, hx182_1⟩ := at_T47 HR0.out x19_3 p182 q182
                        have hw182_1 := hx182_1
                        have hw182_0 := hx182_0
                        obtain rfl : ad180 = ad182 := (by injection e182)
                        replace hx182_0 := (HB.out.cell (World.block_lt_of_cell? w _ hx182_0)).trans hx182_0
                        replace hx182_1 := (HB.out.cell (World.block_lt_of_cell? w _ hx182_1)).trans hx182_1
                        replace p182 := eq_true p182
                        replace q182 := eq_true q182
                        refine start_ (n := 11) (S := fun w' => w'.cell? (ad180.add ((x19_3).toNat * 2)) = some (.string ((rd_T47 l0 x19_3).f0)) ∧ w'.cell? ⟨(ad180.add ((x19_3).toNat * 2)).block, (ad180.add ((x19_3).toNat * 2)).off + 1, none⟩ = some (.string ((rd_T47 l0 x19_3).f1)) ∧ w'.cell? (ad180.add ((x19_3).toNat * 2)) = some (.string ((rd_T47 l0 x19_3).f0)) ∧ w'.cell? ⟨(ad180.add ((x19_3).toNat * 2)).block, (ad180.add ((x19_3).toNat * 2)).off + 1, none⟩ = some (.string ((rd_T47 l0 x19_3).f1))) (ds := []) #[false, false, false, false, false, false, false, false, false, false, false] (by kernel_rfl) rfl rfl ⟨((HB.out.cell (World.block_lt_of_cell? w _ hw180_0)).trans hw180_0), ((HB.out.cell (World.block_lt_of_cell? w _ hw180_1)).trans hw180_1), ((HB.out.cell (World.block_lt_of_cell? w _ hw182_0)).trans hw182_0), ((HB.out.cell (World.block_lt_of_cell? w _ hw182_1)).trans hw182_1)⟩ (fun hHeld => ?_); refine with_tabW postilionlaw21_KvTexts.tab14 postilionlaw21_KvTexts.bits14 (fun HT_ HW_ => ?_)
                        generalize wr.drew = w43 at HB hx180_0 hx180_1 hx182_0 hx182_1 hHeld ⊢
                        refine pure_ (i := 0) (N := some 101) (v := ?_) (a' := ?_) #[true, false, false, false, false, false, false, false, false, false, false] rfl rfl (any_of HT_.out (by kernel_rfl)) (fun _ _ _ h => h) (Or.inl ⟨by rfl, ?_⟩) ?_ ?_
                        rotate_left
                        · intro w'
                          go_simp
                          with_reducible rfl
                        rotate_left
                        · simp only [Act.put, List.setIfInBounds_toArray, List.set_cons_zero, List.set_cons_succ, i64_w, i32_w]
                          rfl
                        refine pure_ (i := 1) (N := some 102) (v := ?_) (a' := ?_) #[true, true, false, false, false, false, false, false, false, false, false] rfl rfl (any_of HT_.out (by kernel_rfl)) (fun _ _ _ h => h) (Or.inl ⟨by rfl, ?_⟩) ?_ ?_
                        rotate_left
                        · intro w'
                          go_simp
                          with_reducible rfl
                        rotate_left
                        · simp only [Act.put, List.setIfInBounds_toArray, List.set_cons_zero, List.set_cons_succ, i64_w, i32_w]
                          rfl
                        refine pure_ (i := 2) (N := some 103) (v := ?_) (a' := ?_) #[true, true, true, false, false, false, false, false, false, false, false] rfl rfl (any_of HT_.out (by kernel_rfl)) (fun _ _ _ h => h) (Or.inl ⟨by rfl, ?_⟩) ?_ ?_
                        rotate_left
                        · intro w'
                          go_simp
                          with_reducible rfl
                        rotate_left
                        · simp only [Act.put, List.setIfInBounds_toArray, List.set_cons_zero, List.set_cons_succ, i64_w, i32_w]
                          rfl
                        refine pure_ (i := 5) (N := some 106) (v := ?_) (a' := ?_) #[true, true, true, false, false, true, false, false, false, false, false] rfl rfl (any_of HT_.out (by kernel_rfl)) (fun _ _ _ h => h) (Or.inl ⟨by rfl, ?_⟩) ?_ ?_
                        rotate_left
                        · intro w'
                          go_simp
                          with_reducible rfl
                        rotate_left
                        · simp only [Act.put, List.setIfInBounds_toArray, List.set_cons_zero, List.set_cons_succ, i64_w, i32_w]
                          rfl
                        refine pure_ (i := 6) (N := some 107) (v := ?_) (a' := ?_) #[true, true, true, false, false, true, true, false, false, false, false] rfl rfl (any_of HT_.out (by kernel_rfl)) (fun _ _ _ h => h) (Or.inl ⟨by rfl, ?_⟩) ?_ ?_
                        rotate_left
                        · intro w'
                          go_simp
                          with_reducible rfl
                        rotate_left
                        · simp only [Act.put, List.setIfInBounds_toArray, List.set_cons_zero, List.set_cons_succ, i64_w, i32_w]
                          rfl
                        refine pure_ (i := 7) (N := some 108) (v := ?_) (a' := ?_) #[true, true, true, false, false, true, true, true, false, false, false] rfl rfl (any_of HT_.out (by kernel_rfl)) (fun _ _ _ h => h) (Or.inl ⟨by rfl, ?_⟩) ?_ ?_
                        rotate_left
                        · intro w'
                          go_simp
                          with_reducible rfl
                        rotate_left
                        · simp only [Act.put, List.setIfInBounds_toArray, List.set_cons_zero, List.set_cons_succ, i64_w, i32_w]
                          rfl
                        refine take_ (i := 3) (N := some 104) (v := ?_) (a' := ?_) #[true, true, true, true, false, true, true, true, false, false, false] rfl rfl (take_ofW HT_.out HW_.out (by kernel_rfl)) (fun _ _ _ h => h) (Or.inl ⟨by rfl, ?_⟩) hHeld ?_ ?_
                        rotate_left
                        · rintro w' ⟨s0, s1, s2, s3⟩
                          go_simp
                          with_reducible rfl
                        rotate_left
                        · simp only [Act.put, List.setIfInBounds_toArray, List.set_cons_zero, List.set_cons_succ, i64_w, i32_w]
                          rfl
                        refine take_ (i := 8) (N := some 109) (v := ?_) (a' := ?_) #[true, true, true, true, false, true, true, true, true, false, false] rfl rfl (take_ofW HT_.out HW_.out (by kernel_rfl)) (fun _ _ _ h => h) (Or.inl ⟨by rfl, ?_⟩) hHeld ?_ ?_
                        rotate_left
                        · rintro w' ⟨s0, s1, s2, s3⟩
                          go_simp
                          with_reducible rfl
                        rotate_left
                        · simp only [Act.put, List.setIfInBounds_toArray, List.set_cons_zero, List.set_cons_succ, i64_w, i32_w]
                          rfl
                        refine one_ (i := 4) (N := some 105) #[true, true, true, true, true, true, true, true, true, false, false] rfl rfl (one_of HT_.out (by kernel_rfl)) (by decide) (fun K hK => ?_)
                        refine goes_ Try.func29 (by kernel_rfl) rfl #[.agg #[.string ((rd_T47 l0 x19_3).f0), .string ((rd_T47 l0 x19_3).f1)]] (by rfl) rfl rfl (by (try simp only [List.map_toArray, List.map_cons, List.map_nil]); first | done | rfl | (simp only [List.length_drop, List.length_take]; rfl)) ?_
                        with_reducible refine (kv_Check.calls ((rd_T47 l0 x19_3).f0) ((rd_T47 l0 x19_3).f1) t181 _ A40.out).mono ?_
                        rintro e w44 ⟨rfl, hb⟩
                        refine ⟨_, rfl, ?_⟩
                        have n0_ := Aside0.mk (below_step (by repeat (first | (with_reducible first | exact HB.out | apply below_alloc | apply pw_below_drewN | apply below_drew1) | exact HB.out)) hb)
                        clear HB
                        have HB := n0_
                        clear n0_
                        (try clear hb)
                        (try clear hb2)
                        (try clear hk)
                        (try clear hi)
                        refine hK.out _ _ ⟨((HB.out.cell (World.block_lt_of_cell? w _ hw180_0)).trans hw180_0), ((HB.out.cell (World.block_lt_of_cell? w _ hw180_1)).trans hw180_1), ((HB.out.cell (World.block_lt_of_cell? w _ hw182_0)).trans hw182_0), ((HB.out.cell (World.block_lt_of_cell? w _ hw182_1)).trans hw182_1)⟩ (fun hHeld => ?_)
                        clear hK K
                        refine norm_ (a' := ?_) ?_ ?_
                        rotate_left
                        · show Act.put _ (some 105) _ = _
                          simp only [Act.put, List.setIfInBounds_toArray, List.set_cons_zero, List.set_cons_succ, i64_w, i32_w]
                          rfl
                        refine one_ (i := 9) (N := some 110) #[true, true, true, true, true, true, true, true, true, true, false] rfl rfl (one_of HT_.out (by kernel_rfl)) (by decide) (fun K hK => ?_)
                        refine goes_ Try.func30 (by kernel_rfl) rfl #[.agg #[.string ((rd_T47 l0 x19_3).f0), .string ((rd_T47 l0 x19_3).f1)]] (by rfl) rfl rfl (by (try simp only [List.map_toArray, List.map_cons, List.map_nil]); first | done | rfl | (simp only [List.length_drop, List.length_take]; rfl)) ?_
                        with_reducible refine (postilionref21_Check.calls k3 ((rd_T47 l0 x19_3).f0) ((rd_T47 l0 x19_3).f1) t183 _ A41.out).mono ?_
                        rintro e w45 ⟨rfl, hb⟩
                        refine ⟨_, rfl, ?_⟩
                        have n0_ := Aside0.mk (below_step (by repeat (first | (with_reducible first | exact HB.out | apply below_alloc | apply pw_below_drewN | apply below_drew1) | exact HB.out)) hb)
                        clear HB
                        have HB := n0_
                        clear n0_
                        (try clear hb)
                        (try clear hb2)
                        (try clear hk)
                        (try clear hi)
                        refine hK.out _ _ ⟨((HB.out.cell (World.block_lt_of_cell? w _ hw180_0)).trans hw180_0), ((HB.out.cell (World.block_lt_of_cell? w _ hw180_1)).trans hw180_1), ((HB.out.cell (World.block_lt_of_cell? w _ hw182_0)).trans hw182_0), ((HB.out.cell (World.block_lt_of_cell? w _ hw182_1)).trans hw182_1)⟩ (fun hHeld => ?_)
                        clear hK K
                        refine norm_ (a' := ?_) ?_ ?_
                        rotate_left
                        · show Act.put _ (some 110) _ = _
                          simp only [Act.put, List.setIfInBounds_toArray, List.set_cons_zero, List.set_cons_succ, i64_w, i32_w]
                          rfl
                        refine pure_ (i := 10) (N := some 111) (v := ?_) (a' := ?_) #[true, true, true, true, true, true, true, true, true, true, true] rfl rfl (any_of HT_.out (by kernel_rfl)) (fun _ _ _ h => h) (Or.inl ⟨by rfl, ?_⟩) ?_ ?_
                        rotate_left
                        · intro w'
                          go_simp
                          with_reducible rfl
                        rotate_left
                        · simp only [Act.put, List.setIfInBounds_toArray, List.set_cons_zero, List.set_cons_succ, i64_w, i32_w]
                          rfl
                        refine done_ (done_of HT_.out (by kernel_rfl)) ?_
                        try go_wp2
                        go_roundg k3
                        case measure => have := HJ3.out; have := HJ16.out; have := HK3.out; omega
                        case rel => exact ⟨(wrap64 (x19_3 + 1)), (by first | rfl | (simp; done) | (simp [*]; done)), H', ⟨by have := HJ3.out; have := HJ16.out; have := HK3.out; omega⟩, ⟨by repeat (first | (with_reducible first | exact HB.out | apply below_alloc | apply pw_below_drewN | apply below_drew1) | exact HB.out)⟩⟩
                      · rw [if_neg c42] at H
                        have c42b0 : (t181 == t183) = false := beq_eq_false_iff_ne.mpr c42
                        have c42b1 : (t181 != t183) = true := bne_iff_ne.mpr c42
                        obtain rfl := Option.some.inj H
                        try go_wp2
                        have n0_ := Aside0.mk (below_drew1 HB.out)
                        clear HB
                        have HB := n0_
                        clear n0_
                        have p180 : 0 ≤ (x19_3 : Int) := of_decide_eq_true (by first | (with_reducible assumption) | assumption)
                        have q180 : x19_3 < (l0.length : Int) := of_decide_eq_true (by first | (with_reducible assumption) | assumption)
                        obtain ⟨ad180, e180, hx180_0, hx180_1⟩ := at_T47 HR0.out x19_3 p180 q180
                        have hw180_1 := hx180_1
                        have hw180_0 := hx180_0
                        cases e180
                        replace hx180_0 := (HB.out.cell (World.block_lt_of_cell? w _ hx180_0)).trans hx180_0
                        replace hx180_1 := (HB.out.cell (World.block_lt_of_cell? w _ hx180_1)).trans hx180_1
                        replace p180 := eq_true p180
                        replace q180 := eq_true q180
                        have p182 : 0 ≤ (x19_3 : Int) := of_decide_eq_true (by first | (with_reducible assumption) | assumption)
                        have q182 : x19_3 < (l0.length : Int) := of_decide_eq_true (by first | (with_reducible assumption) | assumption)
                        obtain ⟨ad182, e182, hx182_0, hx182_1⟩ := at_T47 HR0.out x19_3 p182 q182
                        have hw182_1 := hx182_1
                        have hw182_0 := hx182_0
                        obtain rfl : ad180 = ad182 := (by injection e182)
                        replace hx182_0 := (HB.out.cell (World.block_lt_of_cell? w _ hx182_0)).trans hx182_0
                        replace hx182_1 := (HB.out.cell (World.block_lt_of_cell? w _ hx182_1)).trans hx182_1
                        replace p182 := eq_true p182
                        replace q182 := eq_true q182
                        refine start_ (n := 11) (S := fun w' => w'.cell? (ad180.add ((x19_3).toNat * 2)) = some (.string ((rd_T47 l0 x19_3).f0)) ∧ w'.cell? ⟨(ad180.add ((x19_3).toNat * 2)).block, (ad180.add ((x19_3).toNat * 2)).off + 1, none⟩ = some (.string ((rd_T47 l0 x19_3).f1)) ∧ w'.cell? (ad180.add ((x19_3).toNat * 2)) = some (.string ((rd_T47 l0 x19_3).f0)) ∧ w'.cell? ⟨(ad180.add ((x19_3).toNat * 2)).block, (ad180.add ((x19_3).toNat * 2)).off + 1, none⟩ = some (.string ((rd_T47 l0 x19_3).f1))) (ds := []) #[false, false, false, false, false, false, false, false, false, false, false] (by kernel_rfl) rfl rfl ⟨((HB.out.cell (World.block_lt_of_cell? w _ hw180_0)).trans hw180_0), ((HB.out.cell (World.block_lt_of_cell? w _ hw180_1)).trans hw180_1), ((HB.out.cell (World.block_lt_of_cell? w _ hw182_0)).trans hw182_0), ((HB.out.cell (World.block_lt_of_cell? w _ hw182_1)).trans hw182_1)⟩ (fun hHeld => ?_); refine with_tabW postilionlaw21_KvTexts.tab14 postilionlaw21_KvTexts.bits14 (fun HT_ HW_ => ?_)
                        generalize wr.drew = w46 at HB hx180_0 hx180_1 hx182_0 hx182_1 hHeld ⊢
                        refine pure_ (i := 0) (N := some 101) (v := ?_) (a' := ?_) #[true, false, false, false, false, false, false, false, false, false, false] rfl rfl (any_of HT_.out (by kernel_rfl)) (fun _ _ _ h => h) (Or.inl ⟨by rfl, ?_⟩) ?_ ?_
                        rotate_left
                        · intro w'
                          go_simp
                          with_reducible rfl
                        rotate_left
                        · simp only [Act.put, List.setIfInBounds_toArray, List.set_cons_zero, List.set_cons_succ, i64_w, i32_w]
                          rfl
                        refine pure_ (i := 1) (N := some 102) (v := ?_) (a' := ?_) #[true, true, false, false, false, false, false, false, false, false, false] rfl rfl (any_of HT_.out (by kernel_rfl)) (fun _ _ _ h => h) (Or.inl ⟨by rfl, ?_⟩) ?_ ?_
                        rotate_left
                        · intro w'
                          go_simp
                          with_reducible rfl
                        rotate_left
                        · simp only [Act.put, List.setIfInBounds_toArray, List.set_cons_zero, List.set_cons_succ, i64_w, i32_w]
                          rfl
                        refine pure_ (i := 2) (N := some 103) (v := ?_) (a' := ?_) #[true, true, true, false, false, false, false, false, false, false, false] rfl rfl (any_of HT_.out (by kernel_rfl)) (fun _ _ _ h => h) (Or.inl ⟨by rfl, ?_⟩) ?_ ?_
                        rotate_left
                        · intro w'
                          go_simp
                          with_reducible rfl
                        rotate_left
                        · simp only [Act.put, List.setIfInBounds_toArray, List.set_cons_zero, List.set_cons_succ, i64_w, i32_w]
                          rfl
                        refine pure_ (i := 5) (N := some 106) (v := ?_) (a' := ?_) #[true, true, true, false, false, true, false, false, false, false, false] rfl rfl (any_of HT_.out (by kernel_rfl)) (fun _ _ _ h => h) (Or.inl ⟨by rfl, ?_⟩) ?_ ?_
                        rotate_left
                        · intro w'
                          go_simp
                          with_reducible rfl
                        rotate_left
                        · simp only [Act.put, List.setIfInBounds_toArray, List.set_cons_zero, List.set_cons_succ, i64_w, i32_w]
                          rfl
                        refine pure_ (i := 6) (N := some 107) (v := ?_) (a' := ?_) #[true, true, true, false, false, true, true, false, false, false, false] rfl rfl (any_of HT_.out (by kernel_rfl)) (fun _ _ _ h => h) (Or.inl ⟨by rfl, ?_⟩) ?_ ?_
                        rotate_left
                        · intro w'
                          go_simp
                          with_reducible rfl
                        rotate_left
                        · simp only [Act.put, List.setIfInBounds_toArray, List.set_cons_zero, List.set_cons_succ, i64_w, i32_w]
                          rfl
                        refine pure_ (i := 7) (N := some 108) (v := ?_) (a' := ?_) #[true, true, true, false, false, true, true, true, false, false, false] rfl rfl (any_of HT_.out (by kernel_rfl)) (fun _ _ _ h => h) (Or.inl ⟨by rfl, ?_⟩) ?_ ?_
                        rotate_left
                        · intro w'
                          go_simp
                          with_reducible rfl
                        rotate_left
                        · simp only [Act.put, List.setIfInBounds_toArray, List.set_cons_zero, List.set_cons_succ, i64_w, i32_w]
                          rfl
                        refine take_ (i := 3) (N := some 104) (v := ?_) (a' := ?_) #[true, true, true, true, false, true, true, true, false, false, false] rfl rfl (take_ofW HT_.out HW_.out (by kernel_rfl)) (fun _ _ _ h => h) (Or.inl ⟨by rfl, ?_⟩) hHeld ?_ ?_
                        rotate_left
                        · rintro w' ⟨s0, s1, s2, s3⟩
                          go_simp
                          with_reducible rfl
                        rotate_left
                        · simp only [Act.put, List.setIfInBounds_toArray, List.set_cons_zero, List.set_cons_succ, i64_w, i32_w]
                          rfl
                        refine take_ (i := 8) (N := some 109) (v := ?_) (a' := ?_) #[true, true, true, true, false, true, true, true, true, false, false] rfl rfl (take_ofW HT_.out HW_.out (by kernel_rfl)) (fun _ _ _ h => h) (Or.inl ⟨by rfl, ?_⟩) hHeld ?_ ?_
                        rotate_left
                        · rintro w' ⟨s0, s1, s2, s3⟩
                          go_simp
                          with_reducible rfl
                        rotate_left
                        · simp only [Act.put, List.setIfInBounds_toArray, List.set_cons_zero, List.set_cons_succ, i64_w, i32_w]
                          rfl
                        refine one_ (i := 4) (N := some 105) #[true, true, true, true, true, true, true, true, true, false, false] rfl rfl (one_of HT_.out (by kernel_rfl)) (by decide) (fun K hK => ?_)
                        refine goes_ Try.func29 (by kernel_rfl) rfl #[.agg #[.string ((rd_T47 l0 x19_3).f0), .string ((rd_T47 l0 x19_3).f1)]] (by rfl) rfl rfl (by (try simp only [List.map_toArray, List.map_cons, List.map_nil]); first | done | rfl | (simp only [List.length_drop, List.length_take]; rfl)) ?_
                        with_reducible refine (kv_Check.calls ((rd_T47 l0 x19_3).f0) ((rd_T47 l0 x19_3).f1) t181 _ A40.out).mono ?_
                        rintro e w47 ⟨rfl, hb⟩
                        refine ⟨_, rfl, ?_⟩
                        have n0_ := Aside0.mk (below_step (by repeat (first | (with_reducible first | exact HB.out | apply below_alloc | apply pw_below_drewN | apply below_drew1) | exact HB.out)) hb)
                        clear HB
                        have HB := n0_
                        clear n0_
                        (try clear hb)
                        (try clear hb2)
                        (try clear hk)
                        (try clear hi)
                        refine hK.out _ _ ⟨((HB.out.cell (World.block_lt_of_cell? w _ hw180_0)).trans hw180_0), ((HB.out.cell (World.block_lt_of_cell? w _ hw180_1)).trans hw180_1), ((HB.out.cell (World.block_lt_of_cell? w _ hw182_0)).trans hw182_0), ((HB.out.cell (World.block_lt_of_cell? w _ hw182_1)).trans hw182_1)⟩ (fun hHeld => ?_)
                        clear hK K
                        refine norm_ (a' := ?_) ?_ ?_
                        rotate_left
                        · show Act.put _ (some 105) _ = _
                          simp only [Act.put, List.setIfInBounds_toArray, List.set_cons_zero, List.set_cons_succ, i64_w, i32_w]
                          rfl
                        refine one_ (i := 9) (N := some 110) #[true, true, true, true, true, true, true, true, true, true, false] rfl rfl (one_of HT_.out (by kernel_rfl)) (by decide) (fun K hK => ?_)
                        refine goes_ Try.func30 (by kernel_rfl) rfl #[.agg #[.string ((rd_T47 l0 x19_3).f0), .string ((rd_T47 l0 x19_3).f1)]] (by rfl) rfl rfl (by (try simp only [List.map_toArray, List.map_cons, List.map_nil]); first | done | rfl | (simp only [List.length_drop, List.length_take]; rfl)) ?_
                        with_reducible refine (postilionref21_Check.calls k3 ((rd_T47 l0 x19_3).f0) ((rd_T47 l0 x19_3).f1) t183 _ A41.out).mono ?_
                        rintro e w48 ⟨rfl, hb⟩
                        refine ⟨_, rfl, ?_⟩
                        have n0_ := Aside0.mk (below_step (by repeat (first | (with_reducible first | exact HB.out | apply below_alloc | apply pw_below_drewN | apply below_drew1) | exact HB.out)) hb)
                        clear HB
                        have HB := n0_
                        clear n0_
                        (try clear hb)
                        (try clear hb2)
                        (try clear hk)
                        (try clear hi)
                        refine hK.out _ _ ⟨((HB.out.cell (World.block_lt_of_cell? w _ hw180_0)).trans hw180_0), ((HB.out.cell (World.block_lt_of_cell? w _ hw180_1)).trans hw180_1), ((HB.out.cell (World.block_lt_of_cell? w _ hw182_0)).trans hw182_0), ((HB.out.cell (World.block_lt_of_cell? w _ hw182_1)).trans hw182_1)⟩ (fun hHeld => ?_)
                        clear hK K
                        refine norm_ (a' := ?_) ?_ ?_
                        rotate_left
                        · show Act.put _ (some 110) _ = _
                          simp only [Act.put, List.setIfInBounds_toArray, List.set_cons_zero, List.set_cons_succ, i64_w, i32_w]
                          rfl
                        refine pure_ (i := 10) (N := some 111) (v := ?_) (a' := ?_) #[true, true, true, true, true, true, true, true, true, true, true] rfl rfl (any_of HT_.out (by kernel_rfl)) (fun _ _ _ h => h) (Or.inl ⟨by rfl, ?_⟩) ?_ ?_
                        rotate_left
                        · intro w'
                          go_simp
                          with_reducible rfl
                        rotate_left
                        · simp only [Act.put, List.setIfInBounds_toArray, List.set_cons_zero, List.set_cons_succ, i64_w, i32_w]
                          rfl
                        refine done_ (done_of HT_.out (by kernel_rfl)) ?_
                        try go_wp2
                        go_ret
                        exact ⟨by first | rfl | (simp [errW_none, errW_some] <;> rfl) | (simp [*, errW_none, errW_some] <;> rfl), by repeat (first | (with_reducible first | exact HB.out | apply below_alloc | apply pw_below_drewN | apply below_drew1) | exact HB.out)⟩
                    · rw [if_neg c39] at H
                      exact absurd H (by simp)
                  · rw [if_neg c38] at H
                    have c38b0 : decide (x19_3 < (l0.length : Int)) = false := decide_eq_false c38
                    clear c38
                    replace H := Option.bind_eq_some_iff.mp H
                    obtain ⟨t179, A490, H⟩ := H
                    replace H : (some t179) = some r := H
                    have A49 := Aside0.mk A490
                    clear A490
                    obtain rfl := Option.some.inj H
                    go_wp2_with (first | ((with_reducible refine gate_callee (f := 21) rfl ?_); refine goesL_ (some 112) rfl rfl Try.func21 (by kernel_rfl) rfl #[] rfl (by (try simp only [List.map_toArray, List.map_cons, List.map_nil]); first | done | rfl | (simp only [List.length_drop, List.length_take]; rfl)) ?_; (with_reducible refine (postilionlaw21_awake.calls k3  t179 _ ?side1 A49.out).mono ?_); (case side1 => first | exact HENV.out | exact Env.below HENV.out (by repeat (first | (with_reducible first | exact HB.out | apply below_alloc | apply pw_below_drewN | apply below_drew1) | exact HB.out)) | exact Env.drewN HENV.out _ | exact Env.drawn HENV.out (by assumption)); rintro e w50 ⟨rfl, hb⟩; refine ⟨_, rfl, ?_⟩; have n0_ := Aside0.mk (below_step (by repeat (first | (with_reducible first | exact HB.out | apply below_alloc | apply pw_below_drewN | apply below_drew1) | exact HB.out)) hb); clear HB; have HB := n0_; clear n0_; (try clear hb); (try clear hb2); (try clear hk); (try clear hi)))
                    go_ret
                    exact ⟨by first | rfl | (simp [errW_none, errW_some] <;> rfl) | (simp [*, errW_none, errW_some] <;> rfl), by repeat (first | (with_reducible first | exact HB.out | apply below_alloc | apply pw_below_drewN | apply below_drew1) | exact HB.out)⟩

end Go.Proofs.Ytbgndegdegfebaa.K
