-- PRINTED by print.py (a twelfth state) out of the translation. Not trusted: Lean checks it.
import Derived.Test.YtbgndegdegfebaaQ7
import Derived.Test.YtbgndegdegfebaaQ9
import Derived.Test.YtbgndegdegfebaaQ14
namespace Go.Proofs.Ytbgndegdegfebaa.Q
open Go.RowKit Go.Proofs.YtbgndegdegfebaaW.PrintWords Go.Proofs.YtbgndegdegfebaaW.PrintLast Go.Proofs.YtbgndegdegfebaaW.PrintMore
attribute [local go_sem] max2_int min2_int max_two min_two max_three min_three max_four min_four   -- for this text's walks alone
set_option linter.unusedVariables false
set_option linter.unusedSimpArgs false

-- EXT 73 lex_quoted making rounds deps=91,92
/-! ### lex_quoted: function 73 -/
mutual
def lex_quoted.l0 : Nat → List Int → List Int → Int → Int → Option (ByteArray)
  | 0, _, _, _, _ => none
  | k + 1, x3, x8, x9, x10 => if x10 < x9 then (if 0 ≤ x10 then (if x10 < (x8.length : Int) then (if (rd x8 x10) = 34 then (lex_quoted.j1 k x3 (rd x8 x10) x8 x9 x10 true) else (lex_quoted.j1 k x3 (rd x8 x10) x8 x9 x10 ((rd x8 x10) == 92))) else (none)) else (none)) else (if x3.length < 140737488355328 then (some (strOfNums (x3 ++ [34]))) else (none))
def lex_quoted.j1 : Nat → List Int → Int → List Int → Int → Int → Bool → Option (ByteArray)
  | 0, _, _, _, _, _, _ => none
  | k + 1, x3, x5, x8, x9, x10, x23 => if x23 = true then ((some (([92, x5] : List Int) : List Int)).bind fun y143 => (if x3.length + y143.length < 140737488355328 then (lex_quoted.l0 k (x3 ++ y143) x8 x9 (wrap64 (x10 + 1))) else (none))) else ((lex_printed.f x5).bind fun t149 => (if t149 = true then (if x3.length < 140737488355328 then (lex_quoted.l0 k (x3 ++ [x5]) x8 x9 (wrap64 (x10 + 1))) else (none)) else ((some (([92, 120] : List Int) : List Int)).bind fun y153 => (if x3.length + y153.length < 140737488355328 then ((some (x3 ++ y153 : List Int)).bind fun y156 => ((num_Hex.f k (strOfNums (([x5] : List Int)))).bind fun t162 => (if y156.length + t162.size < 140737488355328 then (lex_quoted.l0 k (y156 ++ bytesOf t162) x8 x9 (wrap64 (x10 + 1))) else (none)))) else (none)))))
end
def lex_quoted.g (k : Nat) (l0 : List Int) : Option (ByteArray) := lex_quoted.l0 k (([34] : List Int)) l0 (l0.length : Int) 0
theorem lex_quoted.mono_l : ∀ k, (∀ y0 y1 y2 y3, LeO (lex_quoted.l0 k y0 y1 y2 y3) (lex_quoted.l0 (k + 1) y0 y1 y2 y3)) ∧ (∀ y0 y1 y2 y3 y4 y5, LeO (lex_quoted.j1 k y0 y1 y2 y3 y4 y5) (lex_quoted.j1 (k + 1) y0 y1 y2 y3 y4 y5))
  | 0 => ⟨fun _ _ _ _ r h => by simp [lex_quoted.l0] at h, fun _ _ _ _ _ _ r h => by simp [lex_quoted.j1] at h⟩
  | k + 1 => by
    obtain ⟨ih0, ih1⟩ := lex_quoted.mono_l k
    refine ⟨?_, ?_⟩
    · intro y0 y1 y2 y3
      unfold lex_quoted.l0
      repeat' first
      | (with_reducible exact ih0 _ _ _ _)
      | (with_reducible exact ih1 _ _ _ _ _ _)
      | (with_reducible exact num_Hex.mono _ _)
      | (with_reducible exact LeO.refl _)
      | (with_reducible exact LeO.none _)
      | (with_reducible refine LeO.ite ?_ ?_)
      | (with_reducible refine LeO.bind ?_ (fun _ => ?_))
      | exact ih0 _ _ _ _
      | exact ih1 _ _ _ _ _ _
      | exact num_Hex.mono _ _
      | exact LeO.none _
      | refine LeO.ite ?_ ?_
      | refine LeO.bind ?_ (fun _ => ?_)
    · intro y0 y1 y2 y3 y4 y5
      unfold lex_quoted.j1
      repeat' first
      | (with_reducible exact ih0 _ _ _ _)
      | (with_reducible exact ih1 _ _ _ _ _ _)
      | (with_reducible exact num_Hex.mono _ _)
      | (with_reducible exact LeO.refl _)
      | (with_reducible exact LeO.none _)
      | (with_reducible refine LeO.ite ?_ ?_)
      | (with_reducible refine LeO.bind ?_ (fun _ => ?_))
      | exact ih0 _ _ _ _
      | exact ih1 _ _ _ _ _ _
      | exact num_Hex.mono _ _
      | exact LeO.none _
      | refine LeO.ite ?_ ?_
      | refine LeO.bind ?_ (fun _ => ?_)
theorem lex_quoted.mono_g : ∀ a0 k, LeO (lex_quoted.g k a0) (lex_quoted.g (k + 1) a0) := by
  intro a0 k
  obtain ⟨ih0, ih1⟩ := lex_quoted.mono_l k
  unfold lex_quoted.g
  repeat' first
      | (with_reducible exact ih0 _ _ _ _)
      | (with_reducible exact ih1 _ _ _ _ _ _)
      | (with_reducible exact num_Hex.mono _ _)
      | (with_reducible exact LeO.refl _)
      | (with_reducible exact LeO.none _)
      | (with_reducible refine LeO.ite ?_ ?_)
      | (with_reducible refine LeO.bind ?_ (fun _ => ?_))
      | exact ih0 _ _ _ _
      | exact ih1 _ _ _ _ _ _
      | exact num_Hex.mono _ _
      | exact LeO.none _
      | refine LeO.ite ?_ ?_
      | refine LeO.bind ?_ (fun _ => ?_)
def lex_quoted.f (k : Nat) (a0 : ByteArray) : Option (ByteArray) := if a0.size ≤ 1000000 then lex_quoted.g k (bytesOf a0) else none
theorem lex_quoted.mono : ∀ a0 k, LeO (lex_quoted.f k a0) (lex_quoted.f (k + 1) a0) := by
  intro a0 k r h
  unfold lex_quoted.f at h ⊢
  by_cases hs : a0.size ≤ 1000000
  · rw [if_pos hs] at h ⊢
    exact lex_quoted.mono_g _ _ _ h
  · rw [if_neg hs] at h
    cases h
def lex_quoted.XX (W : World) (g : Nat) (l0 : List Int) : Prop := ∃ cs fr, W.heap[g]? = some (.cells cs 5 fr) ∧ fr ≠ (0, 0) ∧ ∀ j, j < l0.length → cs[j]? = some (.int .u8 (l0.getD j 0))
theorem lex_quoted.XX.below {W w1 : World} {g : Nat} {l0 : List Int} (h : lex_quoted.XX W g l0) (hb : Below W.heap.size W w1) : lex_quoted.XX w1 g l0 := by
  obtain ⟨cs, fr, h1, h2, h3⟩ := h
  exact ⟨cs, fr, (hb.block g (blk_lt h1)).trans h1, h2, h3⟩
theorem lex_quoted.XX.alloc {W : World} {g : Nat} {l0 : List Int} (h : lex_quoted.XX W g l0) (o : Obj) : lex_quoted.XX (W.alloc o) g l0 := h.below (below_alloc (Below.refl _ _) _)
theorem lex_quoted.XX.drew {W : World} {g : Nat} {l0 : List Int} (h : lex_quoted.XX W g l0) : lex_quoted.XX W.drew g l0 := h
theorem lex_quoted.XX.drewN {W : World} {g : Nat} {l0 : List Int} (h : lex_quoted.XX W g l0) (m : Nat) : lex_quoted.XX (W.drewN m) g l0 := h
theorem lex_quoted.XX.grown {W w1 : World} {g base : Nat} {l0 xs : List Int} {ok : Nat → Prop} {v : Value} (h : lex_quoted.XX W g l0) (ho : Kd.R (Kd.int .u8) 5 W base ok v xs) (hg : W.grownBy w1 v.ownBlock) : lex_quoted.XX w1 g l0 := by
  obtain ⟨cs, fr, h1, h2, h3⟩ := h
  refine ⟨cs, fr, (hg.block g (blk_lt h1) (fun e => ?_)).trans h1, h2, h3⟩
  have hw := Kd.own_of_R ho
  rcases hw.2 with ⟨rfl, _⟩ | ⟨g1, cap, cur, rfl, _, hq, _⟩
  · simp [Value.ownBlock] at e
  · simp only [Value.ownBlock, Option.some.injEq] at e
    subst e
    rw [h1] at hq
    simp only [Option.some.injEq, Obj.cells.injEq] at hq
    exact h2 hq.2.2
theorem lex_quoted.XX.at_ {W : World} {g : Nat} {l0 : List Int} (h : lex_quoted.XX W g l0) (i : Int) (h0 : 0 ≤ i) (hi : i < (l0.length : Int)) : W.cell? ⟨g, i.toNat, none⟩ = some (.int .u8 (rd l0 i)) := by
  obtain ⟨cs, fr, h1, h2, h3⟩ := h
  exact (cell_of_row _ _ _ _ _ _ h1).trans (h3 i.toNat (by omega))
theorem lex_quoted.XX.conv (W : World) (a0 : ByteArray) : lex_quoted.XX (Lib.bytesWorld W 5 a0) W.heap.size (bytesOf a0) := by
  have hn := Lib.bytesWorld_at_new W 5 a0
  refine ⟨_, _, hn, by simp, fun j hj => ?_⟩
  rw [bytesOf_length] at hj
  refine (cell_of_row _ _ _ _ _ _ hn).symm.trans ?_
  rw [Lib.bytesWorld_cell W 5 a0 j hj]
  have hj3 : j < a0.data.toList.length := by rw [data_length]; exact hj
  simp only [bytesOf, List.getD_eq_getElem?_getD, List.getElem?_map, List.getElem?_eq_getElem hj3, Option.map_some, Option.getD_some]
set_option maxHeartbeats 8000000 in
set_option maxRecDepth 100000 in
theorem lex_quoted.calls (k : Nat) (a0 : ByteArray) (r : ByteArray) (w : World) (h : lex_quoted.f k a0 = some r) :
    Calls Try.prog 73 #[.string a0] w fun e w' => e = .returned (.string r) ∧ Below w.heap.size w w' := by
  unfold lex_quoted.f at h
  by_cases hs : a0.size ≤ 1000000
  rotate_left
  · rw [if_neg hs] at h
    cases h
  rw [if_pos hs] at h
  have hconv : ∀ W : World, (convert 9 73 (.string a0)).run Try.prog W = .ok (.slice (some ⟨W.heap.size, 0, none⟩) (bytesOf a0).length (grownCap W a0.size 0 5)) (Lib.bytesWorld W 5 a0) := by
    intro W
    rw [bytesOf_length a0]
    exact Lib.run_convert_string_bytes W 9 73 5 a0 Try.underlying9 Try.underlying73 Try.underlying5
  have hcx : ∀ W : World, lex_quoted.XX (Lib.bytesWorld W 5 a0) W.heap.size (bytesOf a0) := fun W => lex_quoted.XX.conv W a0
  generalize hl0 : bytesOf a0 = l0 at h hconv hcx
  clear hl0
  have HCX := Aside0.mk hcx
  clear hcx
  have HB := Aside0.mk (Below.refl w.heap.size w)
  have H : (lex_quoted.l0 k (([34] : List Int)) l0 (l0.length : Int) 0) = some r := h
  clear h
  obtain ⟨y136, hy136⟩ : ∃ y_ : List Int, y_ = (([34] : List Int)) := ⟨_, rfl⟩
  replace H : (lex_quoted.l0 k y136 l0 (l0.length : Int) 0) = some r := by first | (rw [hy136]; with_reducible exact H) | (have H2_ := (Option.bind_some _ _).symm.trans H; rw [hy136]; with_reducible exact H2_) | (have H2_ := (Option.bind_some _ _).symm.trans H; with_reducible exact H2_) | with_reducible exact H | (rw [hy136]; exact H) | exact H
  have Ny136 := Aside0.mk hy136
  clear hy136
  have H' := Aside0.mk H
  clear H
  go_enter Try.func73, Try.ntmps73
  go_wp2_with (first | ((with_reducible refine gate_dst (N := 6) rfl ?_); refine Kd.R_lit (Kd.int .u8) _ 5 ?hg (N := 6) ?hd (xs := ([34] : List Int)) (inner := [.int .u8 34]) (ok := fun _ => True) (okp := fun _ => True) ?hr ?hp (fun _ hk => hk) trivial (Below.refl _ _) (Nat.le_refl _) (by simp) ?_; (case hd => rfl); (case hg => rfl); (case hr => first | (go_simp; done) | (go_simp; rfl)); (case hp => exact (Reps.one (show Kd.M (Kd.int .u8) _ _ _ 34 [.int .u8 34] from rfl) (Reps.none _ _))); intro v137 w2 ho3 hb hg_ hnew_; clear hg_ hnew_; (first | rw [← Ny136.out] at ho3 | (simp only [Int.reduceToNat] at ho3; rw [← Ny136.out] at ho3)); have n0_ := Aside0.mk (Kd.R_lower ho3 (below_size (by repeat (first | (with_reducible first | exact HB.out | apply below_alloc | apply pw_below_drewN | apply below_drew1) | exact HB.out)))); have n1_ := Aside0.mk (below_step (by repeat (first | (with_reducible first | exact HB.out | apply below_alloc | apply pw_below_drewN | apply below_drew1) | exact HB.out)) hb); clear HB; have HO138 := n0_; have HB := n1_; clear n0_ n1_; clear hb ho3))
  have hbx : Below w2.heap.size w2 (Lib.bytesWorld w2 5 a0) := bytes_below (Below.refl _ _) (Nat.le_refl _) 5 a0
  have HX := Aside0.mk (HCX.out w2)
  have n0_ := Aside0.mk (Kd.R_below HO138.out hbx)
  clear HO138
  have HO138 := n0_
  clear n0_
  have n0_ := Aside0.mk (below_step HB.out hbx)
  clear HB hconv
  have HB := n0_
  clear n0_
  generalize hw_ : Lib.bytesWorld w2 5 a0 = wx at *
  clear hw_
  generalize hgX : w2.heap.size = gX at HX ⊢
  clear hgX hbx
  go_loopg [3, 10] k (fun kq v3 v10 w' => ∃ (x3_1 : List Int) (x10_1 : Int), v10 = .int .i64 x10_1 ∧ Aside0 (lex_quoted.l0 kq x3_1 l0 (l0.length : Int) x10_1 = some r) ∧ Aside0 (kq ≤ k) ∧ Aside0 (Kd.R (Kd.int .u8) 5 w' w.heap.size (fun _ => True) v3 x3_1) ∧ Aside0 (Below w.heap.size w w') ∧ Aside0 (lex_quoted.XX w' gX l0))
  case atStart => exact ⟨(y136), (0), (by first | rfl | (simp; done) | (simp [*]; done)), H', ⟨Nat.le_refl _⟩, ⟨by (with_reducible repeat (first | apply Kd.R_alloc | apply Kd.R_drewN | apply Kd.R_drew)); exact HO138.out⟩, ⟨by repeat (first | (with_reducible first | exact HB.out | apply below_alloc | apply pw_below_drewN | apply below_drew1) | exact HB.out)⟩, ⟨by (with_reducible repeat (first | apply lex_quoted.XX.alloc | apply lex_quoted.XX.drewN | apply lex_quoted.XX.drew)); exact HX.out⟩⟩
  case round =>
    clear H'
    try clear p2
    obtain ⟨x3_1, x10_1, rfl, HA, HK1, HO_3, HB, HX⟩ := hrel
    cases gk with
    | zero => exact absurd HA.out (by simp [lex_quoted.l0])
    | succ k1 =>
      have H := HA.out
      clear HA
      simp only [lex_quoted.l0] at H
      by_cases c4 : x10_1 < (l0.length : Int)
      · rw [if_pos c4] at H
        have c4b0 : decide (x10_1 < (l0.length : Int)) = true := decide_eq_true c4
        clear c4
        by_cases c5 : 0 ≤ x10_1
        · rw [if_pos c5] at H
          have c5b0 : decide (0 ≤ x10_1) = true := decide_eq_true c5
          clear c5
          by_cases c6 : x10_1 < (l0.length : Int)
          · rw [if_pos c6] at H
            have c6b0 : decide (x10_1 < (l0.length : Int)) = true := decide_eq_true c6
            clear c6
            have HC7 := Aside0.mk H
            clear H
            have p142 : 0 ≤ (x10_1 : Int) := of_decide_eq_true (by first | (with_reducible assumption) | assumption)
            have q142 : x10_1 < (l0.length : Int) := of_decide_eq_true (by first | (with_reducible assumption) | assumption)
            have hx142_0 := lex_quoted.XX.at_ HX.out x10_1 p142 q142
            replace p142 := eq_true p142
            replace q142 := eq_true q142
            go_upto_region 7 with (fail)
            go_cut [23] (fun v23 wc => ∃ (kq : Nat) (x23_6 : Bool), v23 = .bool x23_6 ∧ Aside0 (lex_quoted.j1 kq x3_1 (rd l0 x10_1) l0 (l0.length : Int) x10_1 x23_6 = some r) ∧ Aside0 (kq ≤ k1) ∧ Aside0 (Kd.R (Kd.int .u8) 5 wc w.heap.size (fun _ => True) u3 x3_1) ∧ Aside0 (Below w.heap.size w wc) ∧ Aside0 (lex_quoted.XX wc gX l0))
            case first =>
              have H := HC7.out
              clear HC7
              by_cases c8 : (rd l0 x10_1) = 34
              · rw [if_pos c8] at H
                have c8b0 : ((rd l0 x10_1) == 34) = true := beq_iff_eq.mpr c8
                have c8b1 : ((rd l0 x10_1) != 34) = false := bne_eq_false_iff_eq.mpr c8
                clear c8
                (first | rw [c8b0] | (simp only [i64_w, i32_w]; rw [c8b0]) | skip)
                have H' := Aside0.mk H
                clear H
                go_wp2
                go_meet
                case rel => exact ⟨_, (true), (by first | rfl | (simp; done) | (simp [*]; done)), H', ⟨by have := HK1.out; first | omega | exact Nat.le_refl _⟩, ⟨by (with_reducible repeat (first | apply Kd.R_alloc | apply Kd.R_drewN | apply Kd.R_drew)); exact HO_3.out⟩, ⟨by repeat (first | (with_reducible first | exact HB.out | apply below_alloc | apply pw_below_drewN | apply below_drew1) | exact HB.out)⟩, ⟨by (with_reducible repeat (first | apply lex_quoted.XX.alloc | apply lex_quoted.XX.drewN | apply lex_quoted.XX.drew)); exact HX.out⟩⟩
              · rw [if_neg c8] at H
                have c8b0 : ((rd l0 x10_1) == 34) = false := beq_eq_false_iff_ne.mpr c8
                have c8b1 : ((rd l0 x10_1) != 34) = true := bne_iff_ne.mpr c8
                (first | rw [c8b0] | (simp only [i64_w, i32_w]; rw [c8b0]) | skip)
                have H' := Aside0.mk H
                clear H
                go_wp2
                go_meet
                case rel => exact ⟨_, (((rd l0 x10_1) == 92)), (by first | rfl | (simp; done) | (simp [*]; done)), H', ⟨by have := HK1.out; first | omega | exact Nat.le_refl _⟩, ⟨by (with_reducible repeat (first | apply Kd.R_alloc | apply Kd.R_drewN | apply Kd.R_drew)); exact HO_3.out⟩, ⟨by repeat (first | (with_reducible first | exact HB.out | apply below_alloc | apply pw_below_drewN | apply below_drew1) | exact HB.out)⟩, ⟨by (with_reducible repeat (first | apply lex_quoted.XX.alloc | apply lex_quoted.XX.drewN | apply lex_quoted.XX.drew)); exact HX.out⟩⟩
            case rest =>
              clear HC7
              try clear p1
              try clear q1
              try clear hx1
              try clear p2
              try clear c4
              try clear c4b0
              try clear c5
              try clear c5b0
              try clear c6
              try clear c6b0
              try clear c7
              try clear c8
              try clear c8b0
              try clear c8b1
              try clear hx142_0
              try clear p142
              try clear p2
              try clear q142
              obtain ⟨kq, x23_6, rfl, HA, HJ6, HO_3, HB, HX⟩ := hcut
              cases kq with
              | zero => exact absurd HA.out (by simp [lex_quoted.j1])
              | succ kj6 =>
                have H := HA.out
                clear HA
                simp only [lex_quoted.j1] at H
                by_cases c9 : x23_6 = true
                · subst c9
                  have H1 : ((some (([92, (rd l0 x10_1)] : List Int) : List Int)).bind fun y143 => (if x3_1.length + y143.length < 140737488355328 then (lex_quoted.l0 kj6 (x3_1 ++ y143) l0 (l0.length : Int) (wrap64 (x10_1 + 1))) else (none))) = some r := by rw [if_pos rfl] at H; exact H
                  clear H
                  have H := H1
                  clear H1
                  obtain ⟨y143, hy143⟩ : ∃ y_ : List Int, y_ = (([92, (rd l0 x10_1)] : List Int)) := ⟨_, rfl⟩
                  replace H : (if x3_1.length + y143.length < 140737488355328 then (lex_quoted.l0 kj6 (x3_1 ++ y143) l0 (l0.length : Int) (wrap64 (x10_1 + 1))) else (none)) = some r := by first | (rw [hy143]; with_reducible exact H) | (have H2_ := (Option.bind_some _ _).symm.trans H; rw [hy143]; with_reducible exact H2_) | (have H2_ := (Option.bind_some _ _).symm.trans H; with_reducible exact H2_) | with_reducible exact H | (rw [hy143]; exact H) | exact H
                  have Ny143 := Aside0.mk hy143
                  clear hy143
                  by_cases c10 : x3_1.length + y143.length < 140737488355328
                  · rw [if_pos c10] at H
                    have LMc10 := Aside0.mk c10
                    clear c10
                    obtain ⟨y146, hy146⟩ : ∃ y_ : List Int, y_ = (x3_1 ++ y143) := ⟨_, rfl⟩
                    replace H : (lex_quoted.l0 kj6 y146 l0 (l0.length : Int) (wrap64 (x10_1 + 1))) = some r := by first | (rw [hy146]; with_reducible exact H) | (have H2_ := (Option.bind_some _ _).symm.trans H; rw [hy146]; with_reducible exact H2_) | (have H2_ := (Option.bind_some _ _).symm.trans H; with_reducible exact H2_) | with_reducible exact H | (rw [hy146]; exact H) | exact H
                    have Ny146 := Aside0.mk hy146
                    clear hy146
                    have H' := Aside0.mk H
                    clear H
                    go_wp2_with (first | ((with_reducible refine gate_dst (N := 32) rfl ?_); refine Kd.R_lit (Kd.int .u8) _ 5 ?hg (N := 32) ?hd (xs := ([92, (rd l0 x10_1)] : List Int)) (inner := [.int .u8 92, .int .u8 (rd l0 x10_1)]) (ok := fun _ => True) (okp := fun _ => True) ?hr ?hp (fun _ hk => hk) trivial (Below.refl _ _) (Nat.le_refl _) (by simp) ?_; (case hd => rfl); (case hg => rfl); (case hr => first | (go_simp; done) | (go_simp; rfl)); (case hp => exact (Reps.one (show Kd.M (Kd.int .u8) _ _ _ 92 [.int .u8 92] from rfl) (Reps.one (show Kd.M (Kd.int .u8) _ _ _ (rd l0 x10_1) [.int .u8 (rd l0 x10_1)] from rfl) (Reps.none _ _)))); intro v144 w11 ho12 hb hg_ hnew_; have HX_ := Aside0.mk (lex_quoted.XX.below (by (with_reducible repeat (first | apply lex_quoted.XX.alloc | apply lex_quoted.XX.drewN | apply lex_quoted.XX.drew)); exact HX.out) hb); clear HX; have HX := HX_; clear HX_; clear hg_ hnew_; (first | rw [← Ny143.out] at ho12 | (simp only [Int.reduceToNat] at ho12; rw [← Ny143.out] at ho12)); have n0_ := Aside0.mk (Kd.R_elder' (by (with_reducible repeat (first | apply Kd.R_alloc | apply Kd.R_drewN | apply Kd.R_drew)); exact HO_3.out) (Kd.R_base ho12) hb); have n1_ := Aside0.mk (Kd.R_lower (Kd.R_new' ho12 (Kd.R_lt (by (with_reducible repeat (first | apply Kd.R_alloc | apply Kd.R_drewN | apply Kd.R_drew)); exact HO_3.out))) (below_size (by repeat (first | (with_reducible first | exact HB.out | apply below_alloc | apply pw_below_drewN | apply below_drew1) | exact HB.out)))); have n2_ := Aside0.mk (below_step (by repeat (first | (with_reducible first | exact HB.out | apply below_alloc | apply pw_below_drewN | apply below_drew1) | exact HB.out)) hb); clear HO_3; clear HB; have HO_3 := n0_; have HO145 := n1_; have HB := n2_; clear n0_ n1_ n2_; clear hb ho12; obtain ⟨Ao14, co14, eo14⟩ := Kd.R_slice HO145.out; subst eo14) | ((with_reducible refine gate_builtin (b := .append) (xs := #[.tmp 30, .tmp 32]) rfl ?_); at_builtin; refine Kd.R_append_rows (Kd.int .u8) (w0 := w) w.heap.size rfl (.tmp 30) (.tmp 32) 73 5 (.int .u8 0) 1 rfl Try.underlying73 info5 rfl (by decide) (by omega) u3 x3_1 y143 _ _ _ (fun k_ => some k_ ≠ (.slice Ao14 y143.length co14 : Value).ownBlock) (fun _ => False) rfl rfl ?aO ?aR (fun _ _ h => h) (fun _ h => h.elim) ?aF ?aB ?aS ?aL ?_; (case aR => repeat (first | exact (Kd.R_reads' HO145.out).2.2 | (with_reducible refine Kd.C_alloc ?_ _) | (with_reducible refine Kd.C_drewN ?_ _) | (with_reducible refine Kd.C_drew ?_))); (case aB => exact (by repeat (first | (with_reducible first | exact HB.out | apply below_alloc | apply pw_below_drewN | apply below_drew1) | exact HB.out))); (case aF => exact (fun k_ hk => Kd.fresh' (Kd.R_lt (by (with_reducible repeat (first | apply Kd.R_alloc | apply Kd.R_drewN | apply Kd.R_drew)); exact HO145.out)) k_ hk)); (case aO => exact (by (with_reducible repeat (first | apply Kd.R_alloc | apply Kd.R_drewN | apply Kd.R_drew)); exact Kd.R_mono HO_3.out (fun _ hk => hk.2))); (case aS => exact (below_size (by repeat (first | (with_reducible first | exact HB.out | apply below_alloc | apply pw_below_drewN | apply below_drew1) | exact HB.out)))); (case aL => have := LMc10.out; omega); intro v147 w13 ho hb hg hat; have HX_ := Aside0.mk (lex_quoted.XX.grown (by (with_reducible repeat (first | apply lex_quoted.XX.alloc | apply lex_quoted.XX.drewN | apply lex_quoted.XX.drew)); exact HX.out) (by (with_reducible repeat (first | apply Kd.R_alloc | apply Kd.R_drewN | apply Kd.R_drew)); exact HO_3.out) hg); clear HX; have HX := HX_; clear HX_; rw [← Ny146.out] at ho; have n0_ := Aside0.mk (Kd.R_after (ok := (fun _ => True)) (by (with_reducible repeat (first | apply Kd.R_alloc | apply Kd.R_drewN | apply Kd.R_drew)); exact HO145.out) hg hat); have n1_ := Aside0.mk (hb); have n2_ := Aside0.mk (ho); clear HO145; clear HB; clear HO_3; have HO145 := n0_; have HB := n1_; have HO148 := n2_; clear n0_ n1_ n2_; clear ho hb hg hat))
                    go_roundg kj6
                    case measure => have := HK1.out; have := HJ6.out; omega
                    case rel => exact ⟨(y146), (wrap64 (x10_1 + 1)), (by first | rfl | (simp; done) | (simp [*]; done)), H', ⟨by have := HK1.out; have := HJ6.out; omega⟩, ⟨by (with_reducible repeat (first | apply Kd.R_alloc | apply Kd.R_drewN | apply Kd.R_drew)); exact Kd.R_mono HO148.out (fun _ hk => trivial)⟩, ⟨by repeat (first | (with_reducible first | exact HB.out | apply below_alloc | apply pw_below_drewN | apply below_drew1) | exact HB.out)⟩, ⟨by (with_reducible repeat (first | apply lex_quoted.XX.alloc | apply lex_quoted.XX.drewN | apply lex_quoted.XX.drew)); exact HX.out⟩⟩
                  · rw [if_neg c10] at H
                    exact absurd H (by simp)
                · replace c9 := Bool.eq_false_iff.mpr c9
                  subst c9
                  have H1 : ((lex_printed.f (rd l0 x10_1)).bind fun t149 => (if t149 = true then (if x3_1.length < 140737488355328 then (lex_quoted.l0 kj6 (x3_1 ++ [(rd l0 x10_1)]) l0 (l0.length : Int) (wrap64 (x10_1 + 1))) else (none)) else ((some (([92, 120] : List Int) : List Int)).bind fun y153 => (if x3_1.length + y153.length < 140737488355328 then ((some (x3_1 ++ y153 : List Int)).bind fun y156 => ((num_Hex.f kj6 (strOfNums (([(rd l0 x10_1)] : List Int)))).bind fun t162 => (if y156.length + t162.size < 140737488355328 then (lex_quoted.l0 kj6 (y156 ++ bytesOf t162) l0 (l0.length : Int) (wrap64 (x10_1 + 1))) else (none)))) else (none))))) = some r := by rw [if_neg (show ¬ (false = true) by decide)] at H; exact H
                  clear H
                  have H := H1
                  clear H1
                  replace H := Option.bind_eq_some_iff.mp H
                  obtain ⟨t149, A150, H⟩ := H
                  replace H : (if t149 = true then (if x3_1.length < 140737488355328 then (lex_quoted.l0 kj6 (x3_1 ++ [(rd l0 x10_1)]) l0 (l0.length : Int) (wrap64 (x10_1 + 1))) else (none)) else ((some (([92, 120] : List Int) : List Int)).bind fun y153 => (if x3_1.length + y153.length < 140737488355328 then ((some (x3_1 ++ y153 : List Int)).bind fun y156 => ((num_Hex.f kj6 (strOfNums (([(rd l0 x10_1)] : List Int)))).bind fun t162 => (if y156.length + t162.size < 140737488355328 then (lex_quoted.l0 kj6 (y156 ++ bytesOf t162) l0 (l0.length : Int) (wrap64 (x10_1 + 1))) else (none)))) else (none)))) = some r := H
                  have A15 := Aside0.mk A150
                  clear A150
                  by_cases c16 : t149 = true
                  · subst c16
                    have H1 : (if x3_1.length < 140737488355328 then (lex_quoted.l0 kj6 (x3_1 ++ [(rd l0 x10_1)]) l0 (l0.length : Int) (wrap64 (x10_1 + 1))) else (none)) = some r := by rw [if_pos rfl] at H; exact H
                    clear H
                    have H := H1
                    clear H1
                    by_cases c17 : x3_1.length < 140737488355328
                    · rw [if_pos c17] at H
                      have LMc17 := Aside0.mk c17
                      clear c17
                      obtain ⟨y150, hy150⟩ : ∃ y_ : List Int, y_ = (x3_1 ++ [(rd l0 x10_1)]) := ⟨_, rfl⟩
                      replace H : (lex_quoted.l0 kj6 y150 l0 (l0.length : Int) (wrap64 (x10_1 + 1))) = some r := by first | (rw [hy150]; with_reducible exact H) | (have H2_ := (Option.bind_some _ _).symm.trans H; rw [hy150]; with_reducible exact H2_) | (have H2_ := (Option.bind_some _ _).symm.trans H; with_reducible exact H2_) | with_reducible exact H | (rw [hy150]; exact H) | exact H
                      have Ny150 := Aside0.mk hy150
                      clear hy150
                      have H' := Aside0.mk H
                      clear H
                      go_wp2_with (first | ((with_reducible refine gate_callee (f := 91) rfl ?_); refine goesL_ (some 36) rfl rfl Try.func91 (by kernel_rfl) rfl #[.int .u8 (rd l0 x10_1)] rfl (by (try simp only [List.map_toArray, List.map_cons, List.map_nil]); first | done | rfl | (simp only [List.length_drop, List.length_take]; rfl)) ?_; (with_reducible refine (lex_printed.calls (rd l0 x10_1) true _ A15.out).mono ?_); rintro e w' ⟨rfl, ⟨nd, rfl⟩⟩; refine ⟨_, rfl, ?_⟩) | ((with_reducible refine gate_builtin (b := .append) (xs := #[.tmp 37, .tmp 39]) rfl ?_); at_builtin; refine Kd.R_append (Kd.int .u8) (w0 := w) w.heap.size rfl (.tmp 37) (.tmp 39) 73 5 (.int .u8 0) 1 rfl Try.underlying73 info5 rfl (by decide) (by omega) u3 x3_1 (rd l0 x10_1) [.int .u8 (rd l0 x10_1)] (fun _ => True) (fun _ => False) rfl rfl ?aP (fun _ hk => hk.elim) ?aF ?aO ?aB ?aS ?aL ?_; (case aP => exact rfl); (case aB => exact (by repeat (first | (with_reducible first | exact HB.out | apply below_alloc | apply pw_below_drewN | apply below_drew1) | exact HB.out))); (case aF => exact (fun _ _ => trivial)); (case aO => exact (by (with_reducible repeat (first | apply Kd.R_alloc | apply Kd.R_drewN | apply Kd.R_drew)); exact HO_3.out)); (case aS => exact (below_size (by repeat (first | (with_reducible first | exact HB.out | apply below_alloc | apply pw_below_drewN | apply below_drew1) | exact HB.out)))); (case aL => have := LMc17.out; omega); intro v151 w18 ho hb hg hat; have HX_ := Aside0.mk (lex_quoted.XX.grown (by (with_reducible repeat (first | apply lex_quoted.XX.alloc | apply lex_quoted.XX.drewN | apply lex_quoted.XX.drew)); exact HX.out) (by (with_reducible repeat (first | apply Kd.R_alloc | apply Kd.R_drewN | apply Kd.R_drew)); exact HO_3.out) hg); clear HX; have HX := HX_; clear HX_; rw [← Ny150.out] at ho; have n0_ := Aside0.mk (hb); have n1_ := Aside0.mk (ho); clear HB; clear HO_3; have HB := n0_; have HO152 := n1_; clear n0_ n1_; clear ho hb hg hat))
                      go_roundg kj6
                      case measure => have := HK1.out; have := HJ6.out; omega
                      case rel => exact ⟨(y150), (wrap64 (x10_1 + 1)), (by first | rfl | (simp; done) | (simp [*]; done)), H', ⟨by have := HK1.out; have := HJ6.out; omega⟩, ⟨by (with_reducible repeat (first | apply Kd.R_alloc | apply Kd.R_drewN | apply Kd.R_drew)); exact HO152.out⟩, ⟨by repeat (first | (with_reducible first | exact HB.out | apply below_alloc | apply pw_below_drewN | apply below_drew1) | exact HB.out)⟩, ⟨by (with_reducible repeat (first | apply lex_quoted.XX.alloc | apply lex_quoted.XX.drewN | apply lex_quoted.XX.drew)); exact HX.out⟩⟩
                    · rw [if_neg c17] at H
                      exact absurd H (by simp)
                  · replace c16 := Bool.eq_false_iff.mpr c16
                    subst c16
                    have H1 : ((some (([92, 120] : List Int) : List Int)).bind fun y153 => (if x3_1.length + y153.length < 140737488355328 then ((some (x3_1 ++ y153 : List Int)).bind fun y156 => ((num_Hex.f kj6 (strOfNums (([(rd l0 x10_1)] : List Int)))).bind fun t162 => (if y156.length + t162.size < 140737488355328 then (lex_quoted.l0 kj6 (y156 ++ bytesOf t162) l0 (l0.length : Int) (wrap64 (x10_1 + 1))) else (none)))) else (none))) = some r := by rw [if_neg (show ¬ (false = true) by decide)] at H; exact H
                    clear H
                    have H := H1
                    clear H1
                    obtain ⟨y153, hy153⟩ : ∃ y_ : List Int, y_ = (([92, 120] : List Int)) := ⟨_, rfl⟩
                    replace H : (if x3_1.length + y153.length < 140737488355328 then ((some (x3_1 ++ y153 : List Int)).bind fun y156 => ((num_Hex.f kj6 (strOfNums (([(rd l0 x10_1)] : List Int)))).bind fun t162 => (if y156.length + t162.size < 140737488355328 then (lex_quoted.l0 kj6 (y156 ++ bytesOf t162) l0 (l0.length : Int) (wrap64 (x10_1 + 1))) else (none)))) else (none)) = some r := by first | (rw [hy153]; with_reducible exact H) | (have H2_ := (Option.bind_some _ _).symm.trans H; rw [hy153]; with_reducible exact H2_) | (have H2_ := (Option.bind_some _ _).symm.trans H; with_reducible exact H2_) | with_reducible exact H | (rw [hy153]; exact H) | exact H
                    have Ny153 := Aside0.mk hy153
                    clear hy153
                    by_cases c19 : x3_1.length + y153.length < 140737488355328
                    · rw [if_pos c19] at H
                      have LMc19 := Aside0.mk c19
                      clear c19
                      obtain ⟨y156, hy156⟩ : ∃ y_ : List Int, y_ = (x3_1 ++ y153) := ⟨_, rfl⟩
                      replace H : ((num_Hex.f kj6 (strOfNums (([(rd l0 x10_1)] : List Int)))).bind fun t162 => (if y156.length + t162.size < 140737488355328 then (lex_quoted.l0 kj6 (y156 ++ bytesOf t162) l0 (l0.length : Int) (wrap64 (x10_1 + 1))) else (none))) = some r := by first | (rw [hy156]; with_reducible exact H) | (have H2_ := (Option.bind_some _ _).symm.trans H; rw [hy156]; with_reducible exact H2_) | (have H2_ := (Option.bind_some _ _).symm.trans H; with_reducible exact H2_) | with_reducible exact H | (rw [hy156]; exact H) | exact H
                      have Ny156 := Aside0.mk hy156
                      clear hy156
                      obtain ⟨y159, hy159⟩ : ∃ y_ : List Int, y_ = (([(rd l0 x10_1)] : List Int)) := ⟨_, rfl⟩
                      replace H : ((num_Hex.f kj6 (strOfNums y159)).bind fun t162 => (if y156.length + t162.size < 140737488355328 then (lex_quoted.l0 kj6 (y156 ++ bytesOf t162) l0 (l0.length : Int) (wrap64 (x10_1 + 1))) else (none))) = some r := by first | (rw [hy159]; with_reducible exact H) | (have H2_ := (Option.bind_some _ _).symm.trans H; rw [hy159]; with_reducible exact H2_) | (have H2_ := (Option.bind_some _ _).symm.trans H; with_reducible exact H2_) | with_reducible exact H | (rw [hy159]; exact H) | exact H
                      have Ny159 := Aside0.mk hy159
                      clear hy159
                      replace H := Option.bind_eq_some_iff.mp H
                      obtain ⟨t162, A200, H⟩ := H
                      replace H : (if y156.length + t162.size < 140737488355328 then (lex_quoted.l0 kj6 (y156 ++ bytesOf t162) l0 (l0.length : Int) (wrap64 (x10_1 + 1))) else (none)) = some r := H
                      have A20 := Aside0.mk A200
                      clear A200
                      by_cases c21 : y156.length + t162.size < 140737488355328
                      · rw [if_pos c21] at H
                        have LMc21 := Aside0.mk c21
                        clear c21
                        obtain ⟨y163, hy163⟩ : ∃ y_ : List Int, y_ = (y156 ++ bytesOf t162) := ⟨_, rfl⟩
                        replace H : (lex_quoted.l0 kj6 y163 l0 (l0.length : Int) (wrap64 (x10_1 + 1))) = some r := by first | (rw [hy163]; with_reducible exact H) | (have H2_ := (Option.bind_some _ _).symm.trans H; rw [hy163]; with_reducible exact H2_) | (have H2_ := (Option.bind_some _ _).symm.trans H; with_reducible exact H2_) | with_reducible exact H | (rw [hy163]; exact H) | exact H
                        have Ny163 := Aside0.mk hy163
                        clear hy163
                        have H' := Aside0.mk H
                        clear H
                        go_wp2_with (first | ((with_reducible refine gate_callee (f := 91) rfl ?_); refine goesL_ (some 36) rfl rfl Try.func91 (by kernel_rfl) rfl #[.int .u8 (rd l0 x10_1)] rfl (by (try simp only [List.map_toArray, List.map_cons, List.map_nil]); first | done | rfl | (simp only [List.length_drop, List.length_take]; rfl)) ?_; (with_reducible refine (lex_printed.calls (rd l0 x10_1) false _ A15.out).mono ?_); rintro e w' ⟨rfl, ⟨nd, rfl⟩⟩; refine ⟨_, rfl, ?_⟩) | ((with_reducible refine gate_dst (N := 15) rfl ?_); refine Kd.R_lit (Kd.int .u8) _ 5 ?hg (N := 15) ?hd (xs := ([92, 120] : List Int)) (inner := [.int .u8 92, .int .u8 120]) (ok := fun _ => True) (okp := fun _ => True) ?hr ?hp (fun _ hk => hk) trivial (Below.refl _ _) (Nat.le_refl _) (by simp) ?_; (case hd => rfl); (case hg => rfl); (case hr => first | (go_simp; done) | (go_simp; rfl)); (case hp => exact (Reps.one (show Kd.M (Kd.int .u8) _ _ _ 92 [.int .u8 92] from rfl) (Reps.one (show Kd.M (Kd.int .u8) _ _ _ 120 [.int .u8 120] from rfl) (Reps.none _ _)))); intro v154 w22 ho23 hb hg_ hnew_; have HX_ := Aside0.mk (lex_quoted.XX.below (by (with_reducible repeat (first | apply lex_quoted.XX.alloc | apply lex_quoted.XX.drewN | apply lex_quoted.XX.drew)); exact HX.out) hb); clear HX; have HX := HX_; clear HX_; clear hg_ hnew_; (first | rw [← Ny153.out] at ho23 | (simp only [Int.reduceToNat] at ho23; rw [← Ny153.out] at ho23)); have n0_ := Aside0.mk (Kd.R_elder' (by (with_reducible repeat (first | apply Kd.R_alloc | apply Kd.R_drewN | apply Kd.R_drew)); exact HO_3.out) (Kd.R_base ho23) hb); have n1_ := Aside0.mk (Kd.R_lower (Kd.R_new' ho23 (Kd.R_lt (by (with_reducible repeat (first | apply Kd.R_alloc | apply Kd.R_drewN | apply Kd.R_drew)); exact HO_3.out))) (below_size (by repeat (first | (with_reducible first | exact HB.out | apply below_alloc | apply pw_below_drewN | apply below_drew1) | exact HB.out)))); have n2_ := Aside0.mk (below_step (by repeat (first | (with_reducible first | exact HB.out | apply below_alloc | apply pw_below_drewN | apply below_drew1) | exact HB.out)) hb); clear HO_3; clear HB; have HO_3 := n0_; have HO155 := n1_; have HB := n2_; clear n0_ n1_ n2_; clear hb ho23; obtain ⟨Ao25, co25, eo25⟩ := Kd.R_slice HO155.out; subst eo25) | ((with_reducible refine gate_builtin (b := .append) (xs := #[.tmp 14, .tmp 15]) rfl ?_); at_builtin; refine Kd.R_append_rows (Kd.int .u8) (w0 := w) w.heap.size rfl (.tmp 14) (.tmp 15) 73 5 (.int .u8 0) 1 rfl Try.underlying73 info5 rfl (by decide) (by omega) u3 x3_1 y153 _ _ _ (fun k_ => some k_ ≠ (.slice Ao25 y153.length co25 : Value).ownBlock) (fun _ => False) rfl rfl ?aO ?aR (fun _ _ h => h) (fun _ h => h.elim) ?aF ?aB ?aS ?aL ?_; (case aR => repeat (first | exact (Kd.R_reads' HO155.out).2.2 | (with_reducible refine Kd.C_alloc ?_ _) | (with_reducible refine Kd.C_drewN ?_ _) | (with_reducible refine Kd.C_drew ?_))); (case aB => exact (by repeat (first | (with_reducible first | exact HB.out | apply below_alloc | apply pw_below_drewN | apply below_drew1) | exact HB.out))); (case aF => exact (fun k_ hk => Kd.fresh' (Kd.R_lt (by (with_reducible repeat (first | apply Kd.R_alloc | apply Kd.R_drewN | apply Kd.R_drew)); exact HO155.out)) k_ hk)); (case aO => exact (by (with_reducible repeat (first | apply Kd.R_alloc | apply Kd.R_drewN | apply Kd.R_drew)); exact Kd.R_mono HO_3.out (fun _ hk => hk.2))); (case aS => exact (below_size (by repeat (first | (with_reducible first | exact HB.out | apply below_alloc | apply pw_below_drewN | apply below_drew1) | exact HB.out)))); (case aL => have := LMc19.out; omega); intro v157 w24 ho hb hg hat; have HX_ := Aside0.mk (lex_quoted.XX.grown (by (with_reducible repeat (first | apply lex_quoted.XX.alloc | apply lex_quoted.XX.drewN | apply lex_quoted.XX.drew)); exact HX.out) (by (with_reducible repeat (first | apply Kd.R_alloc | apply Kd.R_drewN | apply Kd.R_drew)); exact HO_3.out) hg); clear HX; have HX := HX_; clear HX_; rw [← Ny156.out] at ho; have n0_ := Aside0.mk (Kd.R_after (ok := (fun _ => True)) (by (with_reducible repeat (first | apply Kd.R_alloc | apply Kd.R_drewN | apply Kd.R_drew)); exact HO155.out) hg hat); have n1_ := Aside0.mk (hb); have n2_ := Aside0.mk (ho); clear HO155; clear HB; clear HO_3; have HO155 := n0_; have HB := n1_; have HO158 := n2_; clear n0_ n1_ n2_; clear ho hb hg hat) | ((with_reducible refine gate_dst (N := 19) rfl ?_); refine Kd.R_lit (Kd.int .u8) _ 5 ?hg (N := 19) ?hd (xs := ([(rd l0 x10_1)] : List Int)) (inner := [.int .u8 (rd l0 x10_1)]) (ok := fun _ => True) (okp := fun _ => True) ?hr ?hp (fun _ hk => hk) trivial (Below.refl _ _) (Nat.le_refl _) (by simp) ?_; (case hd => rfl); (case hg => rfl); (case hr => first | (go_simp; done) | (go_simp; rfl)); (case hp => exact (Reps.one (show Kd.M (Kd.int .u8) _ _ _ (rd l0 x10_1) [.int .u8 (rd l0 x10_1)] from rfl) (Reps.none _ _))); intro v160 w26 ho27 hb hg_ hnew_; have HX_ := Aside0.mk (lex_quoted.XX.below (by (with_reducible repeat (first | apply lex_quoted.XX.alloc | apply lex_quoted.XX.drewN | apply lex_quoted.XX.drew)); exact HX.out) hb); clear HX; have HX := HX_; clear HX_; clear hg_ hnew_; (first | rw [← Ny159.out] at ho27 | (simp only [Int.reduceToNat] at ho27; rw [← Ny159.out] at ho27)); have n0_ := Aside0.mk (Kd.R_elder' (by (with_reducible repeat (first | apply Kd.R_alloc | apply Kd.R_drewN | apply Kd.R_drew)); exact HO155.out) (Kd.R_base ho27) hb); have n1_ := Aside0.mk (Kd.R_elder' (by (with_reducible repeat (first | apply Kd.R_alloc | apply Kd.R_drewN | apply Kd.R_drew)); exact HO158.out) (Kd.R_base ho27) hb); have n2_ := Aside0.mk (Kd.R_lower (Kd.R_new' (Kd.R_new' ho27 (Kd.R_lt (by (with_reducible repeat (first | apply Kd.R_alloc | apply Kd.R_drewN | apply Kd.R_drew)); exact HO155.out))) (Kd.R_lt (by (with_reducible repeat (first | apply Kd.R_alloc | apply Kd.R_drewN | apply Kd.R_drew)); exact HO158.out))) (below_size (by repeat (first | (with_reducible first | exact HB.out | apply below_alloc | apply pw_below_drewN | apply below_drew1) | exact HB.out)))); have n3_ := Aside0.mk (below_step (by repeat (first | (with_reducible first | exact HB.out | apply below_alloc | apply pw_below_drewN | apply below_drew1) | exact HB.out)) hb); clear HO155; clear HO158; clear HB; have HO155 := n0_; have HO158 := n1_; have HO161 := n2_; have HB := n3_; clear n0_ n1_ n2_ n3_; clear hb ho27; have hcv28 := own_string (P := Try.prog) Try.underlying73 Try.underlying5 Try.underlying9 (Kd.own_of_R HO161.out)) | ((with_reducible refine gate_callee (f := 92) rfl ?_); refine goesL_ (some 21) rfl rfl Try.func92 (by kernel_rfl) rfl #[.string (strOfNums y159)] rfl (by (try simp only [List.map_toArray, List.map_cons, List.map_nil]); first | done | rfl | (simp only [List.length_drop, List.length_take]; rfl)) ?_; (with_reducible refine (num_Hex.calls kj6 (strOfNums y159) t162 _ A20.out).mono ?_); rintro e w29 ⟨rfl, hb⟩; refine ⟨_, rfl, ?_⟩; have HX_ := Aside0.mk (lex_quoted.XX.below (by (with_reducible repeat (first | apply lex_quoted.XX.alloc | apply lex_quoted.XX.drewN | apply lex_quoted.XX.drew)); exact HX.out) hb); clear HX; have HX := HX_; clear HX_; have n0_ := Aside0.mk (Kd.R_below (by (with_reducible repeat (first | apply Kd.R_alloc | apply Kd.R_drewN | apply Kd.R_drew)); exact HO155.out) hb); have n1_ := Aside0.mk (Kd.R_below (by (with_reducible repeat (first | apply Kd.R_alloc | apply Kd.R_drewN | apply Kd.R_drew)); exact HO158.out) hb); have n2_ := Aside0.mk (Kd.R_below (by (with_reducible repeat (first | apply Kd.R_alloc | apply Kd.R_drewN | apply Kd.R_drew)); exact HO161.out) hb); have n3_ := Aside0.mk (below_step (by repeat (first | (with_reducible first | exact HB.out | apply below_alloc | apply pw_below_drewN | apply below_drew1) | exact HB.out)) hb); clear HO155; clear HO158; clear HO161; clear HB; have HO155 := n0_; have HO158 := n1_; have HO161 := n2_; have HB := n3_; clear n0_ n1_ n2_ n3_; (try clear hb); (try clear hb2); (try clear hk); (try clear hi)) | (at_builtin; refine print_append_str (w0 := w) w.heap.size rfl (.tmp 17) _ 73 9 5 rfl Try.underlying73 Try.underlying9 info5 v157 y156 t162 rfl rfl ?aO ?aB ?aS ?aL ?_; (case aB => exact (by repeat (first | (with_reducible first | exact HB.out | apply below_alloc | apply pw_below_drewN | apply below_drew1) | exact HB.out))); (case aO => exact (Kd.own_of_R (by (with_reducible repeat (first | apply Kd.R_alloc | apply Kd.R_drewN | apply Kd.R_drew)); exact HO158.out))); (case aS => exact (below_size (by repeat (first | (with_reducible first | exact HB.out | apply below_alloc | apply pw_below_drewN | apply below_drew1) | exact HB.out)))); (case aL => have := LMc21.out; omega); intro v164 w30 ho0 hb hg; have HX_ := Aside0.mk (lex_quoted.XX.grown (by (with_reducible repeat (first | apply lex_quoted.XX.alloc | apply lex_quoted.XX.drewN | apply lex_quoted.XX.drew)); exact HX.out) (by (with_reducible repeat (first | apply Kd.R_alloc | apply Kd.R_drewN | apply Kd.R_drew)); exact HO158.out) hg); clear HX; have HX := HX_; clear HX_; have ho := Kd.R_of_own (h1 := fun _ => rfl) (ok := fun _ => True) ho0 (fun _ _ => trivial); clear ho0; rw [← Ny163.out] at ho; have n2_ := Aside0.mk (hb); have n3_ := Aside0.mk (ho); clear HO155; clear HO161; clear HB; clear HO158; have HB := n2_; have HO165 := n3_; clear n2_ n3_; clear ho hb hg))
                        go_roundg kj6
                        case measure => have := HK1.out; have := HJ6.out; omega
                        case rel => exact ⟨(y163), (wrap64 (x10_1 + 1)), (by first | rfl | (simp; done) | (simp [*]; done)), H', ⟨by have := HK1.out; have := HJ6.out; omega⟩, ⟨by (with_reducible repeat (first | apply Kd.R_alloc | apply Kd.R_drewN | apply Kd.R_drew)); exact Kd.R_mono HO165.out (fun _ hk => trivial)⟩, ⟨by repeat (first | (with_reducible first | exact HB.out | apply below_alloc | apply pw_below_drewN | apply below_drew1) | exact HB.out)⟩, ⟨by (with_reducible repeat (first | apply lex_quoted.XX.alloc | apply lex_quoted.XX.drewN | apply lex_quoted.XX.drew)); exact HX.out⟩⟩
                      · rw [if_neg c21] at H
                        exact absurd H (by simp)
                    · rw [if_neg c19] at H
                      exact absurd H (by simp)
          · rw [if_neg c6] at H
            exact absurd H (by simp)
        · rw [if_neg c5] at H
          exact absurd H (by simp)
      · rw [if_neg c4] at H
        have c4b0 : decide (x10_1 < (l0.length : Int)) = false := decide_eq_false c4
        clear c4
        by_cases c31 : x3_1.length < 140737488355328
        · rw [if_pos c31] at H
          have LMc31 := Aside0.mk c31
          clear c31
          obtain ⟨y139, hy139⟩ : ∃ y_ : List Int, y_ = (x3_1 ++ [34]) := ⟨_, rfl⟩
          replace H : (some (strOfNums y139)) = some r := by first | (rw [hy139]; with_reducible exact H) | (have H2_ := (Option.bind_some _ _).symm.trans H; rw [hy139]; with_reducible exact H2_) | (have H2_ := (Option.bind_some _ _).symm.trans H; with_reducible exact H2_) | with_reducible exact H | (rw [hy139]; exact H) | exact H
          have Ny139 := Aside0.mk hy139
          clear hy139
          obtain rfl := Option.some.inj H
          go_wp2_with (first | ((with_reducible refine gate_builtin (b := .append) (xs := #[.tmp 42, .tmp 43]) rfl ?_); at_builtin; refine Kd.R_append (Kd.int .u8) (w0 := w) w.heap.size rfl (.tmp 42) (.tmp 43) 73 5 (.int .u8 0) 1 rfl Try.underlying73 info5 rfl (by decide) (by omega) u3 x3_1 34 [.int .u8 34] (fun _ => True) (fun _ => False) rfl rfl ?aP (fun _ hk => hk.elim) ?aF ?aO ?aB ?aS ?aL ?_; (case aP => exact rfl); (case aB => exact (by repeat (first | (with_reducible first | exact HB.out | apply below_alloc | apply pw_below_drewN | apply below_drew1) | exact HB.out))); (case aF => exact (fun _ _ => trivial)); (case aO => exact (by (with_reducible repeat (first | apply Kd.R_alloc | apply Kd.R_drewN | apply Kd.R_drew)); exact HO_3.out)); (case aS => exact (below_size (by repeat (first | (with_reducible first | exact HB.out | apply below_alloc | apply pw_below_drewN | apply below_drew1) | exact HB.out)))); (case aL => have := LMc31.out; omega); intro v140 w32 ho hb hg hat; have HX_ := Aside0.mk (lex_quoted.XX.grown (by (with_reducible repeat (first | apply lex_quoted.XX.alloc | apply lex_quoted.XX.drewN | apply lex_quoted.XX.drew)); exact HX.out) (by (with_reducible repeat (first | apply Kd.R_alloc | apply Kd.R_drewN | apply Kd.R_drew)); exact HO_3.out) hg); clear HX; have HX := HX_; clear HX_; rw [← Ny139.out] at ho; have n0_ := Aside0.mk (hb); have n1_ := Aside0.mk (ho); clear HB; clear HO_3; have HB := n0_; have HO141 := n1_; clear n0_ n1_; clear ho hb hg hat; have hcv33 := own_string (P := Try.prog) Try.underlying73 Try.underlying5 Try.underlying9 (Kd.own_of_R HO141.out)))
          go_ret
          exact ⟨by first | rfl | (simp [errW_none, errW_some] <;> rfl) | (simp [*, errW_none, errW_some] <;> rfl), by repeat (first | (with_reducible first | exact HB.out | apply below_alloc | apply pw_below_drewN | apply below_drew1) | exact HB.out)⟩
        · rw [if_neg c31] at H
          exact absurd H (by simp)

end Go.Proofs.Ytbgndegdegfebaa.Q
