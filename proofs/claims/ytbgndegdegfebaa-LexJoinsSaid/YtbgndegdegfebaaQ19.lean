-- PRINTED by print.py (a twelfth state) out of the translation. Not trusted: Lean checks it.
import Derived.Test.YtbgndegdegfebaaQ7
import Derived.Test.YtbgndegdegfebaaQ12
import Derived.Test.YtbgndegdegfebaaQ13
import Derived.Test.YtbgndegdegfebaaQ17
import Derived.Test.YtbgndegdegfebaaQ18
namespace Go.Proofs.Ytbgndegdegfebaa.Q
open Go.RowKit Go.Proofs.YtbgndegdegfebaaW.PrintWords Go.Proofs.YtbgndegdegfebaaW.PrintLast Go.Proofs.YtbgndegdegfebaaW.PrintMore
attribute [local go_sem] max2_int min2_int max_two min_two max_three min_three max_four min_four   -- for this text's walks alone
set_option linter.unusedVariables false
set_option linter.unusedSimpArgs false

attribute [local go_sem high] eqA33
/-! ### lex_Put: function 17 -/
def lex_Put.l0 : Nat → List ByteArray → List (S33) → Int → Int → Option (ByteArray × Int)
  | 0, _, _, _, _ => none
  | k + 1, x4, x12, x13, x14 => if x14 < x13 then (if 0 ≤ x14 then (if x14 < (x12.length : Int) then ((lex_put.f k ((rd_T33 x12 x14).f0) ((rd_T33 x12 x14).f1) ((rd_T33 x12 x14).f2)).bind fun bt142 => (if bt142.2 = true then (if x4.length < 8796093022208 then (lex_Put.l0 k (x4 ++ [bt142.1]) x12 x13 (wrap64 (x14 + 1))) else (none)) else (some ((⟨#[]⟩ : ByteArray), 1)))) else (none)) else (none)) else ((strings_Join.f x4 (⟨#[32]⟩ : ByteArray)).bind fun t147 => (some (t147, 0)))
def lex_Put.f (k : Nat) (l0 : List (S33)) : Option (ByteArray × Int) := if (l0.length : Int) > 4096 then (some ((⟨#[]⟩ : ByteArray), 7)) else (lex_Put.l0 k ([] : List ByteArray) l0 (l0.length : Int) 0)
theorem lex_Put.mono_l : ∀ k, (∀ y0 y1 y2 y3, LeO (lex_Put.l0 k y0 y1 y2 y3) (lex_Put.l0 (k + 1) y0 y1 y2 y3))
  | 0 => fun _ _ _ _ r h => by simp [lex_Put.l0] at h
  | k + 1 => by
    have ih0 := lex_Put.mono_l k
    · intro y0 y1 y2 y3
      unfold lex_Put.l0
      repeat' first
      | (with_reducible exact ih0 _ _ _ _)
      | (with_reducible exact lex_put.mono _ _ _ _)
      | (with_reducible exact LeO.refl _)
      | (with_reducible exact LeO.none _)
      | (with_reducible refine LeO.ite ?_ ?_)
      | (with_reducible refine LeO.bind ?_ (fun _ => ?_))
      | exact ih0 _ _ _ _
      | exact lex_put.mono _ _ _ _
      | exact LeO.none _
      | refine LeO.ite ?_ ?_
      | refine LeO.bind ?_ (fun _ => ?_)
theorem lex_Put.mono : ∀ a0 k, LeO (lex_Put.f k a0) (lex_Put.f (k + 1) a0) := by
  intro a0 k
  have ih0 := lex_Put.mono_l k
  unfold lex_Put.f
  repeat' first
      | (with_reducible exact ih0 _ _ _ _)
      | (with_reducible exact lex_put.mono _ _ _ _)
      | (with_reducible exact LeO.refl _)
      | (with_reducible exact LeO.none _)
      | (with_reducible refine LeO.ite ?_ ?_)
      | (with_reducible refine LeO.bind ?_ (fun _ => ?_))
      | exact ih0 _ _ _ _
      | exact lex_put.mono _ _ _ _
      | exact LeO.none _
      | refine LeO.ite ?_ ?_
      | refine LeO.bind ?_ (fun _ => ?_)
set_option maxHeartbeats 8000000 in
set_option maxRecDepth 100000 in
theorem lex_Put.calls (k : Nat) (A0 : Option Addr) (c0 : Nat) (l0 : List (S33)) (r1 : ByteArray) (r2 : Int) (w : World) (hr0 : Kd.C k33 w A0 l0.length l0) (hc0 : l0.length ≤ c0) (h : lex_Put.f k l0 = some (r1, r2)) :
    Calls Try.prog 17 #[.slice A0 l0.length c0] w fun e w' => e = .returned (.tuple #[.string r1, .int .i64 r2]) ∧ Below w.heap.size w w' := by
  have hu33 := Try.underlying33
  have HR0 := Aside0.mk hr0
  have HC0 := Aside0.mk hc0
  clear hr0 hc0
  have HB := Aside0.mk (Below.refl w.heap.size w)
  have H : (if (l0.length : Int) > 4096 then (some ((⟨#[]⟩ : ByteArray), 7)) else (lex_Put.l0 k ([] : List ByteArray) l0 (l0.length : Int) 0)) = some (r1, r2) := h
  clear h
  by_cases c2 : (l0.length : Int) > 4096
  · rw [if_pos c2] at H
    have c2b0 : decide (4096 < (l0.length : Int)) = true := decide_eq_true c2
    have c2b1 : decide (4096 < l0.length) = true := decide_eq_true (by omega)
    clear c2
    simp only [Option.some.injEq, Prod.mk.injEq] at H
    obtain ⟨rfl, rfl⟩ := H
    go_enter Try.func17, Try.ntmps17
    go_wp2
    go_ret2
    exact ⟨by first | rfl | (simp [errW_none, errW_some] <;> rfl) | (simp [*, errW_none, errW_some] <;> rfl), by repeat (first | (with_reducible first | exact HB.out | apply below_alloc | apply pw_below_drewN | apply below_drew1) | exact HB.out)⟩
  · rw [if_neg c2] at H
    have c2b0 : decide (4096 < (l0.length : Int)) = false := decide_eq_false c2
    have c2b1 : decide (4096 < l0.length) = false := decide_eq_false (by omega)
    clear c2
    have H' := Aside0.mk H
    clear H
    go_enter Try.func17, Try.ntmps17
    go_wp2
    go_loopg [4, 14] k (fun kq v4 v14 w' => ∃ (x4_1 : List ByteArray) (x14_1 : Int), v14 = .int .i64 x14_1 ∧ Aside0 (lex_Put.l0 kq x4_1 l0 (l0.length : Int) x14_1 = some (r1, r2)) ∧ Aside0 (kq ≤ k) ∧ Aside0 (Kd.R Kd.string 9 w' w.heap.size (fun _ => True) v4 x4_1) ∧ Aside0 (Below w.heap.size w w'))
    case atStart => exact ⟨(([] : List ByteArray)), (0), (by first | rfl | (simp; done) | (simp [*]; done)), H', ⟨Nat.le_refl _⟩, ⟨by first | exact Kd.R_nil _ _ _ _ _ | exact Kd.N_nil _ _ _ _ _ | exact Kd.V_nil _ _ _ _ _ | exact Kd.Q_nil _ _ _ _ _ | exact Kd.S_nil _ _ _ _ _⟩, ⟨by repeat (first | (with_reducible first | exact HB.out | apply below_alloc | apply pw_below_drewN | apply below_drew1) | exact HB.out)⟩⟩
    case round =>
      clear H'
      try clear c1
      try clear c2
      try clear c2b0
      try clear c2b1
      try clear p2
      obtain ⟨x4_1, x14_1, rfl, HA, HK1, HO_4, HB⟩ := hrel
      cases gk with
      | zero => exact absurd HA.out (by simp [lex_Put.l0])
      | succ k1 =>
        have H := HA.out
        clear HA
        simp only [lex_Put.l0] at H
        by_cases c3 : x14_1 < (l0.length : Int)
        · rw [if_pos c3] at H
          have c3b0 : decide (x14_1 < (l0.length : Int)) = true := decide_eq_true c3
          clear c3
          by_cases c4 : 0 ≤ x14_1
          · rw [if_pos c4] at H
            have c4b0 : decide (0 ≤ x14_1) = true := decide_eq_true c4
            clear c4
            by_cases c5 : x14_1 < (l0.length : Int)
            · rw [if_pos c5] at H
              have c5b0 : decide (x14_1 < (l0.length : Int)) = true := decide_eq_true c5
              clear c5
              replace H := Option.bind_eq_some_iff.mp H
              obtain ⟨⟨t142, t143⟩, A60, H⟩ := H
              replace H : (if t143 = true then (if x4_1.length < 8796093022208 then (lex_Put.l0 k1 (x4_1 ++ [t142]) l0 (l0.length : Int) (wrap64 (x14_1 + 1))) else (none)) else (some ((⟨#[]⟩ : ByteArray), 1))) = some (r1, r2) := H
              have A6 := Aside0.mk A60
              clear A60
              by_cases c7 : t143 = true
              · subst c7
                have H1 : (if x4_1.length < 8796093022208 then (lex_Put.l0 k1 (x4_1 ++ [t142]) l0 (l0.length : Int) (wrap64 (x14_1 + 1))) else (none)) = some (r1, r2) := by rw [if_pos rfl] at H; exact H
                clear H
                have H := H1
                clear H1
                by_cases c8 : x4_1.length < 8796093022208
                · rw [if_pos c8] at H
                  have LMc8 := Aside0.mk c8
                  clear c8
                  obtain ⟨y144, hy144⟩ : ∃ y_ : List ByteArray, y_ = (x4_1 ++ [t142]) := ⟨_, rfl⟩
                  replace H : (lex_Put.l0 k1 y144 l0 (l0.length : Int) (wrap64 (x14_1 + 1))) = some (r1, r2) := by first | (rw [hy144]; with_reducible exact H) | (have H2_ := (Option.bind_some _ _).symm.trans H; rw [hy144]; with_reducible exact H2_) | (have H2_ := (Option.bind_some _ _).symm.trans H; with_reducible exact H2_) | with_reducible exact H | (rw [hy144]; exact H) | exact H
                  have Ny144 := Aside0.mk hy144
                  clear hy144
                  have H' := Aside0.mk H
                  clear H
                  have p140 : 0 ≤ (x14_1 : Int) := of_decide_eq_true (by first | (with_reducible assumption) | assumption)
                  have q140 : x14_1 < (l0.length : Int) := of_decide_eq_true (by first | (with_reducible assumption) | assumption)
                  obtain ⟨ad140, e140, hx140_0, hx140_1, hx140_2⟩ := at_T33 HR0.out x14_1 p140 q140
                  cases e140
                  replace hx140_0 := (HB.out.cell (World.block_lt_of_cell? w _ hx140_0)).trans hx140_0
                  replace hx140_1 := (HB.out.cell (World.block_lt_of_cell? w _ hx140_1)).trans hx140_1
                  replace hx140_2 := (HB.out.cell (World.block_lt_of_cell? w _ hx140_2)).trans hx140_2
                  replace p140 := eq_true p140
                  replace q140 := eq_true q140
                  go_wp2_with (first | ((with_reducible refine gate_dst (N := 6) rfl ?_); refine box_event ?hg (N := 6) ?hd (cs := #[.int .i64 0, .string (⟨#[]⟩ : ByteArray), .int .i64 0]) (t := 33) ?hr ?_; (case hd => rfl); (case hg => rfl); (case hr => first | (go_simp; done) | (go_simp; rfl)); intro gb141 hg w9 hbox hb; have n0_ := Aside0.mk (Kd.R_below (by (with_reducible repeat (first | apply Kd.R_alloc | apply Kd.R_drewN | apply Kd.R_drew)); exact HO_4.out) hb); have n1_ := Aside0.mk (below_step (by repeat (first | (with_reducible first | exact HB.out | apply below_alloc | apply pw_below_drewN | apply below_drew1) | exact HB.out)) hb); have n2_ := Aside0.mk (hbox); have n3_ := Aside0.mk ((by rw [hg]; exact (below_size (by repeat (first | (with_reducible first | exact HB.out | apply below_alloc | apply pw_below_drewN | apply below_drew1) | exact HB.out))) : w.heap.size ≤ gb141)); have n4_ := Aside0.mk ((by rw [hg]; exact (below_size (by repeat (first | (with_reducible first | exact HB.out | apply below_alloc | apply pw_below_drewN | apply below_drew1) | exact HB.out))) : w.heap.size ≤ gb141)); clear HO_4; clear HB; have HO_4 := n0_; have HB := n1_; have BK141 := n2_; have GW141 := n3_; have GE141 := n4_; clear n0_ n1_ n2_ n3_ n4_; clear hb hbox hg; have hcz10_0 : w9.cell? ⟨gb141, 0, none⟩ = some (.int .i64 0) := (blk_cell BK141.out 0).trans rfl; have hcz10_1 : w9.cell? ⟨gb141, 1, none⟩ = some (.string (⟨#[]⟩ : ByteArray)) := (blk_cell BK141.out 1).trans rfl; have hcz10_2 : w9.cell? ⟨gb141, 2, none⟩ = some (.int .i64 0) := (blk_cell BK141.out 2).trans rfl; have hfz10_0 := blk_frozen BK141.out 0; have hfz10_1 := blk_frozen BK141.out 1; have hfz10_2 := blk_frozen BK141.out 2) | ((with_reducible refine gate_callee (f := 43) rfl ?_); refine goesL_ (some 20) rfl rfl Try.func43 (by kernel_rfl) rfl #[.agg #[.int .i64 ((rd_T33 l0 x14_1).f0), .string ((rd_T33 l0 x14_1).f1), .int .i64 ((rd_T33 l0 x14_1).f2)]] rfl (by (try simp only [List.map_toArray, List.map_cons, List.map_nil]); first | done | rfl | (simp only [List.length_drop, List.length_take]; rfl)) ?_; (with_reducible refine (lex_put.calls k1 ((rd_T33 l0 x14_1).f0) ((rd_T33 l0 x14_1).f1) ((rd_T33 l0 x14_1).f2) t142 true _ A6.out).mono ?_); rintro e w11 ⟨rfl, hb⟩; refine ⟨_, rfl, ?_⟩; have n0_ := Aside0.mk (Kd.R_below (by (with_reducible repeat (first | apply Kd.R_alloc | apply Kd.R_drewN | apply Kd.R_drew)); exact (Kd.R_mono (Kd.R_far (p := ⟨gb141, 2, none⟩) (Kd.R_far (p := ⟨gb141, 1, none⟩) (Kd.R_far (p := ⟨gb141, 0, none⟩) (Kd.R_types HO_4.out BK141.out (by decide)) (fun _ hk => hk.2) (.int .i64 ((rd_T33 l0 x14_1).f0))) (fun _ hk => hk.2) (.string ((rd_T33 l0 x14_1).f1))) (fun _ hk => hk.2) (.int .i64 ((rd_T33 l0 x14_1).f2))) (fun _ h_ => h_.1))) hb); have n1_ := Aside0.mk (blk_below (g := gb141) (o := .cells #[.int .i64 ((rd_T33 l0 x14_1).f0), .string ((rd_T33 l0 x14_1).f1), .int .i64 ((rd_T33 l0 x14_1).f2)] 33 (0, 0)) (by (with_reducible repeat (first | refine blk_drewN ?_ _ | refine blk_drew ?_ | refine blk_alloc ?_ _)); refine blk_put (cs := #[.int .i64 ((rd_T33 l0 x14_1).f0), .string ((rd_T33 l0 x14_1).f1), .int .i64 0]) ?_ 2 _ rfl; (with_reducible repeat (first | refine blk_drewN ?_ _ | refine blk_drew ?_ | refine blk_alloc ?_ _)); refine blk_put (cs := #[.int .i64 ((rd_T33 l0 x14_1).f0), .string (⟨#[]⟩ : ByteArray), .int .i64 0]) ?_ 1 _ rfl; (with_reducible repeat (first | refine blk_drewN ?_ _ | refine blk_drew ?_ | refine blk_alloc ?_ _)); refine blk_put (cs := #[.int .i64 0, .string (⟨#[]⟩ : ByteArray), .int .i64 0]) ?_ 0 _ rfl; (with_reducible repeat (first | refine blk_drewN ?_ _ | refine blk_drew ?_ | refine blk_alloc ?_ _)); exact BK141.out) hb); have n2_ := Aside0.mk (below_step (by repeat (first | (with_reducible first | exact HB.out | apply below_alloc | apply pw_below_drewN | apply below_drew1 | refine below_set ?_ GE141.out) | exact HB.out)) hb); clear HO_4; clear BK141; clear HB; have HO_4 := n0_; have BK141 := n1_; have HB := n2_; clear n0_ n1_ n2_; (try clear hb); (try clear hb2); (try clear hk); (try clear hi)) | ((with_reducible refine gate_builtin (b := .append) (xs := #[.tmp 25, .tmp 27]) rfl ?_); at_builtin; refine Kd.R_append Kd.string (w0 := w) w.heap.size rfl (.tmp 25) (.tmp 27) 49 9 (.string ⟨#[]⟩) 16 rfl Try.underlying49 info9 rfl (by decide) (by omega) u4 x4_1 t142 [.string t142] (fun _ => True) (fun _ => False) rfl rfl ?aP (fun _ hk => hk.elim) ?aF ?aO ?aB ?aS ?aL ?_; (case aP => exact rfl); (case aB => exact (by repeat (first | (with_reducible first | exact HB.out | apply below_alloc | apply pw_below_drewN | apply below_drew1 | refine below_set ?_ GE141.out) | exact HB.out))); (case aF => exact (fun _ _ => trivial)); (case aO => exact (by (with_reducible repeat (first | apply Kd.R_alloc | apply Kd.R_drewN | apply Kd.R_drew)); exact HO_4.out)); (case aS => exact (below_size (by repeat (first | (with_reducible first | exact HB.out | apply below_alloc | apply pw_below_drewN | apply below_drew1 | refine below_set ?_ GE141.out) | exact HB.out)))); (case aL => have := LMc8.out; omega); intro v145 w12 ho hb hg hat; rw [← Ny144.out] at ho; have n0_ := Aside0.mk (blk_grown (g := gb141) (o := .cells #[.int .i64 ((rd_T33 l0 x14_1).f0), .string ((rd_T33 l0 x14_1).f1), .int .i64 ((rd_T33 l0 x14_1).f2)] 33 (0, 0)) (by (with_reducible repeat (first | refine blk_drewN ?_ _ | refine blk_drew ?_ | refine blk_alloc ?_ _)); exact BK141.out) hg (Kd.R_ne HO_4.out BK141.out (by decide))); have n1_ := Aside0.mk (hb); have n2_ := Aside0.mk (ho); clear BK141; clear HB; clear HO_4; have BK141 := n0_; have HB := n1_; have HO146 := n2_; clear n0_ n1_ n2_; clear ho hb hg hat))
                  go_roundg k1
                  case measure => have := HK1.out; omega
                  case rel => exact ⟨(y144), (wrap64 (x14_1 + 1)), (by first | rfl | (simp; done) | (simp [*]; done)), H', ⟨by have := HK1.out; omega⟩, ⟨by (with_reducible repeat (first | apply Kd.R_alloc | apply Kd.R_drewN | apply Kd.R_drew)); exact HO146.out⟩, ⟨by repeat (first | (with_reducible first | exact HB.out | apply below_alloc | apply pw_below_drewN | apply below_drew1 | refine below_set ?_ GE141.out) | exact HB.out)⟩⟩
                · rw [if_neg c8] at H
                  exact absurd H (by simp)
              · replace c7 := Bool.eq_false_iff.mpr c7
                subst c7
                have H1 : (some ((⟨#[]⟩ : ByteArray), 1)) = some (r1, r2) := by rw [if_neg (show ¬ (false = true) by decide)] at H; exact H
                clear H
                have H := H1
                clear H1
                simp only [Option.some.injEq, Prod.mk.injEq] at H
                obtain ⟨rfl, rfl⟩ := H
                have p140 : 0 ≤ (x14_1 : Int) := of_decide_eq_true (by first | (with_reducible assumption) | assumption)
                have q140 : x14_1 < (l0.length : Int) := of_decide_eq_true (by first | (with_reducible assumption) | assumption)
                obtain ⟨ad140, e140, hx140_0, hx140_1, hx140_2⟩ := at_T33 HR0.out x14_1 p140 q140
                cases e140
                replace hx140_0 := (HB.out.cell (World.block_lt_of_cell? w _ hx140_0)).trans hx140_0
                replace hx140_1 := (HB.out.cell (World.block_lt_of_cell? w _ hx140_1)).trans hx140_1
                replace hx140_2 := (HB.out.cell (World.block_lt_of_cell? w _ hx140_2)).trans hx140_2
                replace p140 := eq_true p140
                replace q140 := eq_true q140
                go_wp2_with (first | ((with_reducible refine gate_dst (N := 6) rfl ?_); refine box_event ?hg (N := 6) ?hd (cs := #[.int .i64 0, .string (⟨#[]⟩ : ByteArray), .int .i64 0]) (t := 33) ?hr ?_; (case hd => rfl); (case hg => rfl); (case hr => first | (go_simp; done) | (go_simp; rfl)); intro gb141 hg w13 hbox hb; have n0_ := Aside0.mk (Kd.R_below (by (with_reducible repeat (first | apply Kd.R_alloc | apply Kd.R_drewN | apply Kd.R_drew)); exact HO_4.out) hb); have n1_ := Aside0.mk (below_step (by repeat (first | (with_reducible first | exact HB.out | apply below_alloc | apply pw_below_drewN | apply below_drew1) | exact HB.out)) hb); have n2_ := Aside0.mk (hbox); have n3_ := Aside0.mk ((by rw [hg]; exact (below_size (by repeat (first | (with_reducible first | exact HB.out | apply below_alloc | apply pw_below_drewN | apply below_drew1) | exact HB.out))) : w.heap.size ≤ gb141)); have n4_ := Aside0.mk ((by rw [hg]; exact (below_size (by repeat (first | (with_reducible first | exact HB.out | apply below_alloc | apply pw_below_drewN | apply below_drew1) | exact HB.out))) : w.heap.size ≤ gb141)); clear HO_4; clear HB; have HO_4 := n0_; have HB := n1_; have BK141 := n2_; have GW141 := n3_; have GE141 := n4_; clear n0_ n1_ n2_ n3_ n4_; clear hb hbox hg; have hcz14_0 : w13.cell? ⟨gb141, 0, none⟩ = some (.int .i64 0) := (blk_cell BK141.out 0).trans rfl; have hcz14_1 : w13.cell? ⟨gb141, 1, none⟩ = some (.string (⟨#[]⟩ : ByteArray)) := (blk_cell BK141.out 1).trans rfl; have hcz14_2 : w13.cell? ⟨gb141, 2, none⟩ = some (.int .i64 0) := (blk_cell BK141.out 2).trans rfl; have hfz14_0 := blk_frozen BK141.out 0; have hfz14_1 := blk_frozen BK141.out 1; have hfz14_2 := blk_frozen BK141.out 2) | ((with_reducible refine gate_callee (f := 43) rfl ?_); refine goesL_ (some 20) rfl rfl Try.func43 (by kernel_rfl) rfl #[.agg #[.int .i64 ((rd_T33 l0 x14_1).f0), .string ((rd_T33 l0 x14_1).f1), .int .i64 ((rd_T33 l0 x14_1).f2)]] rfl (by (try simp only [List.map_toArray, List.map_cons, List.map_nil]); first | done | rfl | (simp only [List.length_drop, List.length_take]; rfl)) ?_; (with_reducible refine (lex_put.calls k1 ((rd_T33 l0 x14_1).f0) ((rd_T33 l0 x14_1).f1) ((rd_T33 l0 x14_1).f2) t142 false _ A6.out).mono ?_); rintro e w15 ⟨rfl, hb⟩; refine ⟨_, rfl, ?_⟩; have n0_ := Aside0.mk (Kd.R_below (by (with_reducible repeat (first | apply Kd.R_alloc | apply Kd.R_drewN | apply Kd.R_drew)); exact (Kd.R_mono (Kd.R_far (p := ⟨gb141, 2, none⟩) (Kd.R_far (p := ⟨gb141, 1, none⟩) (Kd.R_far (p := ⟨gb141, 0, none⟩) (Kd.R_types HO_4.out BK141.out (by decide)) (fun _ hk => hk.2) (.int .i64 ((rd_T33 l0 x14_1).f0))) (fun _ hk => hk.2) (.string ((rd_T33 l0 x14_1).f1))) (fun _ hk => hk.2) (.int .i64 ((rd_T33 l0 x14_1).f2))) (fun _ h_ => h_.1))) hb); have n1_ := Aside0.mk (blk_below (g := gb141) (o := .cells #[.int .i64 ((rd_T33 l0 x14_1).f0), .string ((rd_T33 l0 x14_1).f1), .int .i64 ((rd_T33 l0 x14_1).f2)] 33 (0, 0)) (by (with_reducible repeat (first | refine blk_drewN ?_ _ | refine blk_drew ?_ | refine blk_alloc ?_ _)); refine blk_put (cs := #[.int .i64 ((rd_T33 l0 x14_1).f0), .string ((rd_T33 l0 x14_1).f1), .int .i64 0]) ?_ 2 _ rfl; (with_reducible repeat (first | refine blk_drewN ?_ _ | refine blk_drew ?_ | refine blk_alloc ?_ _)); refine blk_put (cs := #[.int .i64 ((rd_T33 l0 x14_1).f0), .string (⟨#[]⟩ : ByteArray), .int .i64 0]) ?_ 1 _ rfl; (with_reducible repeat (first | refine blk_drewN ?_ _ | refine blk_drew ?_ | refine blk_alloc ?_ _)); refine blk_put (cs := #[.int .i64 0, .string (⟨#[]⟩ : ByteArray), .int .i64 0]) ?_ 0 _ rfl; (with_reducible repeat (first | refine blk_drewN ?_ _ | refine blk_drew ?_ | refine blk_alloc ?_ _)); exact BK141.out) hb); have n2_ := Aside0.mk (below_step (by repeat (first | (with_reducible first | exact HB.out | apply below_alloc | apply pw_below_drewN | apply below_drew1 | refine below_set ?_ GE141.out) | exact HB.out)) hb); clear HO_4; clear BK141; clear HB; have HO_4 := n0_; have BK141 := n1_; have HB := n2_; clear n0_ n1_ n2_; (try clear hb); (try clear hb2); (try clear hk); (try clear hi)))
                go_ret2
                exact ⟨by first | rfl | (simp [errW_none, errW_some] <;> rfl) | (simp [*, errW_none, errW_some] <;> rfl), by repeat (first | (with_reducible first | exact HB.out | apply below_alloc | apply pw_below_drewN | apply below_drew1 | refine below_set ?_ GE141.out) | exact HB.out)⟩
            · rw [if_neg c5] at H
              exact absurd H (by simp)
          · rw [if_neg c4] at H
            exact absurd H (by simp)
        · rw [if_neg c3] at H
          have c3b0 : decide (x14_1 < (l0.length : Int)) = false := decide_eq_false c3
          clear c3
          replace H := Option.bind_eq_some_iff.mp H
          obtain ⟨t147, A160, H⟩ := H
          replace H : (some (t147, 0)) = some (r1, r2) := H
          have A16 := Aside0.mk A160
          clear A160
          simp only [Option.some.injEq, Prod.mk.injEq] at H
          obtain ⟨rfl, rfl⟩ := H
          obtain ⟨Ao17, co17, eo17⟩ := Kd.R_slice HO_4.out
          subst eo17
          go_wp2_with (first | ((with_reducible refine gate_callee (f := 44) rfl ?_); refine goesL_ (some 31) rfl rfl Try.func44 (by kernel_rfl) rfl #[.slice Ao17 x4_1.length co17, .string (⟨#[32]⟩ : ByteArray)] rfl (by (try simp only [List.map_toArray, List.map_cons, List.map_nil]); first | done | rfl | (simp only [List.length_drop, List.length_take]; rfl)) ?_; (with_reducible refine (strings_Join.calls _ _ x4_1 (⟨#[32]⟩ : ByteArray) t147 _ ?side1 ?side2 A16.out).mono ?_); (case side1 => repeat (first | exact (Kd.R_reads' HO_4.out).2.2 | (with_reducible refine Kd.C_alloc ?_ _) | (with_reducible refine Kd.C_drewN ?_ _) | (with_reducible refine Kd.C_drew ?_))); (case side2 => exact (Kd.R_reads' HO_4.out).2.1); rintro e w18 ⟨rfl, hb⟩; refine ⟨_, rfl, ?_⟩; have n0_ := Aside0.mk (Kd.R_below (by (with_reducible repeat (first | apply Kd.R_alloc | apply Kd.R_drewN | apply Kd.R_drew)); exact HO_4.out) hb); have n1_ := Aside0.mk (below_step (by repeat (first | (with_reducible first | exact HB.out | apply below_alloc | apply pw_below_drewN | apply below_drew1) | exact HB.out)) hb); clear HO_4; clear HB; have HO_4 := n0_; have HB := n1_; clear n0_ n1_; (try clear hb); (try clear hb2); (try clear hk); (try clear hi)))
          go_ret2
          exact ⟨by first | rfl | (simp [errW_none, errW_some] <;> rfl) | (simp [*, errW_none, errW_some] <;> rfl), by repeat (first | (with_reducible first | exact HB.out | apply below_alloc | apply pw_below_drewN | apply below_drew1) | exact HB.out)⟩

/-! ### postilionlaw44_awake: function 10 -/
def postilionlaw44_awake.f0 (k : Nat)  : Option (Bool) := (lex_Read.f k (⟨#[47, 47, 32, 111, 110, 101, 10, 97, 61, 60, 48, 120, 49, 62, 59, 32, 34, 92, 120, 52, 49, 92, 34, 34]⟩ : ByteArray)).bind fun bt148 => ((lex_Read.f k (⟨#[97, 10, 33]⟩ : ByteArray)).bind fun bt153 => ((lex_Put.f k (([(⟨2, (⟨#[10]⟩ : ByteArray), 0⟩ : S33), (⟨3, (⟨#[59]⟩ : ByteArray), 0⟩ : S33)] : List (S33)))).bind fun bt161 => (if (bt148.1.length : Int) = 7 then (if 0 < (bt148.1.length : Int) then (if (((rd_T33 bt148.1 0).f0) == 1 && ((((rd_T33 bt148.1 0).f1).toList) == ([97] : List UInt8) && (((rd_T33 bt148.1 0).f2) == 2))) = true then (if 6 < (bt148.1.length : Int) then (if ((rd_T33 bt148.1 6).f1).toList = ([65, 34] : List UInt8) then (if bt148.2.1 = 0 then (if bt148.2.2 = 0 then (if (bt153.1.length : Int) = 0 then (if bt153.2.1 = 2 then (if bt153.2.2 = 6 then (if bt161.1.toList = ([34, 92, 120, 48, 97, 34, 32, 59] : List UInt8) then (if bt161.2 = 0 then ((lex_Word.f k (⟨#[97, 64, 48]⟩ : ByteArray)).bind fun t165 => (if t165 = true then ((lex_Word.f k (⟨#[]⟩ : ByteArray)).bind fun t166 => (some (!t166))) else (some false))) else (some false)) else (some false)) else (some false)) else (some false)) else (some false)) else (some false)) else (some false)) else (some false)) else (none)) else (some false)) else (none)) else (some false))))
theorem postilionlaw44_awake.mono0 : ∀ k, LeO (postilionlaw44_awake.f0 k ) (postilionlaw44_awake.f0 (k + 1) ) := by
  intro  k
  unfold postilionlaw44_awake.f0
  repeat' first
      | (with_reducible exact lex_Put.mono _ _)
      | (with_reducible exact lex_Read.mono _ _)
      | (with_reducible exact lex_Word.mono _ _)
      | (with_reducible exact LeO.refl _)
      | (with_reducible exact LeO.none _)
      | (with_reducible refine LeO.ite ?_ ?_)
      | (with_reducible refine LeO.bind ?_ (fun _ => ?_))
      | exact lex_Put.mono _ _
      | exact lex_Read.mono _ _
      | exact lex_Word.mono _ _
      | exact LeO.none _
      | refine LeO.ite ?_ ?_
      | refine LeO.bind ?_ (fun _ => ?_)
set_option maxHeartbeats 8000000 in
set_option maxRecDepth 100000 in
theorem postilionlaw44_awake.calls0 (k : Nat)  (r : Bool) (w : World) (HE : Env w) (h : postilionlaw44_awake.f0 k  = some r) (hr_ : r = true) :
    Calls Try.prog 10 #[] w fun e w' => e = .returned (.bool r) ∧ Below w.heap.size w w' := by
  have hu33 := Try.underlying33
  have HENV := Aside0.mk HE
  clear HE
  have HB := Aside0.mk (Below.refl w.heap.size w)
  have H : ((lex_Read.f k (⟨#[47, 47, 32, 111, 110, 101, 10, 97, 61, 60, 48, 120, 49, 62, 59, 32, 34, 92, 120, 52, 49, 92, 34, 34]⟩ : ByteArray)).bind fun bt148 => ((lex_Read.f k (⟨#[97, 10, 33]⟩ : ByteArray)).bind fun bt153 => ((lex_Put.f k (([(⟨2, (⟨#[10]⟩ : ByteArray), 0⟩ : S33), (⟨3, (⟨#[59]⟩ : ByteArray), 0⟩ : S33)] : List (S33)))).bind fun bt161 => (if (bt148.1.length : Int) = 7 then (if 0 < (bt148.1.length : Int) then (if (((rd_T33 bt148.1 0).f0) == 1 && ((((rd_T33 bt148.1 0).f1).toList) == ([97] : List UInt8) && (((rd_T33 bt148.1 0).f2) == 2))) = true then (if 6 < (bt148.1.length : Int) then (if ((rd_T33 bt148.1 6).f1).toList = ([65, 34] : List UInt8) then (if bt148.2.1 = 0 then (if bt148.2.2 = 0 then (if (bt153.1.length : Int) = 0 then (if bt153.2.1 = 2 then (if bt153.2.2 = 6 then (if bt161.1.toList = ([34, 92, 120, 48, 97, 34, 32, 59] : List UInt8) then (if bt161.2 = 0 then ((lex_Word.f k (⟨#[97, 64, 48]⟩ : ByteArray)).bind fun t165 => (if t165 = true then ((lex_Word.f k (⟨#[]⟩ : ByteArray)).bind fun t166 => (some (!t166))) else (some false))) else (some false)) else (some false)) else (some false)) else (some false)) else (some false)) else (some false)) else (some false)) else (some false)) else (none)) else (some false)) else (none)) else (some false))))) = some r := h
  clear h
  replace H := Option.bind_eq_some_iff.mp H
  obtain ⟨⟨t148, t149, t150⟩, A10, H⟩ := H
  replace H : ((lex_Read.f k (⟨#[97, 10, 33]⟩ : ByteArray)).bind fun bt153 => ((lex_Put.f k (([(⟨2, (⟨#[10]⟩ : ByteArray), 0⟩ : S33), (⟨3, (⟨#[59]⟩ : ByteArray), 0⟩ : S33)] : List (S33)))).bind fun bt161 => (if (t148.length : Int) = 7 then (if 0 < (t148.length : Int) then (if (((rd_T33 t148 0).f0) == 1 && ((((rd_T33 t148 0).f1).toList) == ([97] : List UInt8) && (((rd_T33 t148 0).f2) == 2))) = true then (if 6 < (t148.length : Int) then (if ((rd_T33 t148 6).f1).toList = ([65, 34] : List UInt8) then (if t149 = 0 then (if t150 = 0 then (if (bt153.1.length : Int) = 0 then (if bt153.2.1 = 2 then (if bt153.2.2 = 6 then (if bt161.1.toList = ([34, 92, 120, 48, 97, 34, 32, 59] : List UInt8) then (if bt161.2 = 0 then ((lex_Word.f k (⟨#[97, 64, 48]⟩ : ByteArray)).bind fun t165 => (if t165 = true then ((lex_Word.f k (⟨#[]⟩ : ByteArray)).bind fun t166 => (some (!t166))) else (some false))) else (some false)) else (some false)) else (some false)) else (some false)) else (some false)) else (some false)) else (some false)) else (some false)) else (none)) else (some false)) else (none)) else (some false)))) = some r := H
  have A1 := Aside0.mk A10
  clear A10
  replace H := Option.bind_eq_some_iff.mp H
  obtain ⟨⟨t153, t154, t155⟩, A20, H⟩ := H
  replace H : ((lex_Put.f k (([(⟨2, (⟨#[10]⟩ : ByteArray), 0⟩ : S33), (⟨3, (⟨#[59]⟩ : ByteArray), 0⟩ : S33)] : List (S33)))).bind fun bt161 => (if (t148.length : Int) = 7 then (if 0 < (t148.length : Int) then (if (((rd_T33 t148 0).f0) == 1 && ((((rd_T33 t148 0).f1).toList) == ([97] : List UInt8) && (((rd_T33 t148 0).f2) == 2))) = true then (if 6 < (t148.length : Int) then (if ((rd_T33 t148 6).f1).toList = ([65, 34] : List UInt8) then (if t149 = 0 then (if t150 = 0 then (if (t153.length : Int) = 0 then (if t154 = 2 then (if t155 = 6 then (if bt161.1.toList = ([34, 92, 120, 48, 97, 34, 32, 59] : List UInt8) then (if bt161.2 = 0 then ((lex_Word.f k (⟨#[97, 64, 48]⟩ : ByteArray)).bind fun t165 => (if t165 = true then ((lex_Word.f k (⟨#[]⟩ : ByteArray)).bind fun t166 => (some (!t166))) else (some false))) else (some false)) else (some false)) else (some false)) else (some false)) else (some false)) else (some false)) else (some false)) else (some false)) else (none)) else (some false)) else (none)) else (some false))) = some r := H
  have A2 := Aside0.mk A20
  clear A20
  obtain ⟨y158, hy158⟩ : ∃ y_ : List (S33), y_ = (([(⟨2, (⟨#[10]⟩ : ByteArray), 0⟩ : S33), (⟨3, (⟨#[59]⟩ : ByteArray), 0⟩ : S33)] : List (S33))) := ⟨_, rfl⟩
  replace H : ((lex_Put.f k y158).bind fun bt161 => (if (t148.length : Int) = 7 then (if 0 < (t148.length : Int) then (if (((rd_T33 t148 0).f0) == 1 && ((((rd_T33 t148 0).f1).toList) == ([97] : List UInt8) && (((rd_T33 t148 0).f2) == 2))) = true then (if 6 < (t148.length : Int) then (if ((rd_T33 t148 6).f1).toList = ([65, 34] : List UInt8) then (if t149 = 0 then (if t150 = 0 then (if (t153.length : Int) = 0 then (if t154 = 2 then (if t155 = 6 then (if bt161.1.toList = ([34, 92, 120, 48, 97, 34, 32, 59] : List UInt8) then (if bt161.2 = 0 then ((lex_Word.f k (⟨#[97, 64, 48]⟩ : ByteArray)).bind fun t165 => (if t165 = true then ((lex_Word.f k (⟨#[]⟩ : ByteArray)).bind fun t166 => (some (!t166))) else (some false))) else (some false)) else (some false)) else (some false)) else (some false)) else (some false)) else (some false)) else (some false)) else (some false)) else (none)) else (some false)) else (none)) else (some false))) = some r := by first | (rw [hy158]; with_reducible exact H) | (have H2_ := (Option.bind_some _ _).symm.trans H; rw [hy158]; with_reducible exact H2_) | (have H2_ := (Option.bind_some _ _).symm.trans H; with_reducible exact H2_) | with_reducible exact H | (rw [hy158]; exact H) | exact H
  have Ny158 := Aside0.mk hy158
  clear hy158
  replace H := Option.bind_eq_some_iff.mp H
  obtain ⟨⟨t161, t162⟩, A30, H⟩ := H
  replace H : (if (t148.length : Int) = 7 then (if 0 < (t148.length : Int) then (if (((rd_T33 t148 0).f0) == 1 && ((((rd_T33 t148 0).f1).toList) == ([97] : List UInt8) && (((rd_T33 t148 0).f2) == 2))) = true then (if 6 < (t148.length : Int) then (if ((rd_T33 t148 6).f1).toList = ([65, 34] : List UInt8) then (if t149 = 0 then (if t150 = 0 then (if (t153.length : Int) = 0 then (if t154 = 2 then (if t155 = 6 then (if t161.toList = ([34, 92, 120, 48, 97, 34, 32, 59] : List UInt8) then (if t162 = 0 then ((lex_Word.f k (⟨#[97, 64, 48]⟩ : ByteArray)).bind fun t165 => (if t165 = true then ((lex_Word.f k (⟨#[]⟩ : ByteArray)).bind fun t166 => (some (!t166))) else (some false))) else (some false)) else (some false)) else (some false)) else (some false)) else (some false)) else (some false)) else (some false)) else (some false)) else (none)) else (some false)) else (none)) else (some false)) = some r := H
  have A3 := Aside0.mk A30
  clear A30
  by_cases c4 : (t148.length : Int) = 7
  · rw [if_pos c4] at H
    have c4b0 : ((t148.length : Int) == 7) = true := beq_iff_eq.mpr c4
    have c4b1 : ((t148.length : Int) != 7) = false := bne_eq_false_iff_eq.mpr c4
    clear c4
    by_cases c5 : 0 < (t148.length : Int)
    · rw [if_pos c5] at H
      have c5b0 : decide (0 < (t148.length : Int)) = true := decide_eq_true c5
      have c5b1 : decide (0 < t148.length) = true := decide_eq_true (by omega)
      clear c5
      by_cases c6 : (((rd_T33 t148 0).f0) == 1 && ((((rd_T33 t148 0).f1).toList) == ([97] : List UInt8) && (((rd_T33 t148 0).f2) == 2))) = true
      · rw [if_pos c6] at H
        have c6b0 : (((rd_T33 t148 0).f0) == 1 && ((((rd_T33 t148 0).f1).toList) == ([97] : List UInt8) && (((rd_T33 t148 0).f2) == 2))) = true := c6
        (try (have c6b1 : decide (((rd_T33 t148 0).f0) = 1 && ((((rd_T33 t148 0).f1).toList) == ([97] : List UInt8) && (((rd_T33 t148 0).f2) == 2))) = true := by simpa using c6))
        (try (have c6b2 : (((rd_T33 t148 0).f0) == 1 && ((((rd_T33 t148 0).f1).toList) == ([97] : List UInt8) && (((rd_T33 t148 0).f2) == 2))) = true := by simpa using c6))
        clear c6
        by_cases c7 : 6 < (t148.length : Int)
        · rw [if_pos c7] at H
          have c7b0 : decide (6 < (t148.length : Int)) = true := decide_eq_true c7
          have c7b1 : decide (6 < t148.length) = true := decide_eq_true (by omega)
          clear c7
          by_cases c8 : ((rd_T33 t148 6).f1).toList = ([65, 34] : List UInt8)
          · rw [if_pos c8] at H
            have c8b0 : (((rd_T33 t148 6).f1).toList == ([65, 34] : List UInt8)) = true := beq_iff_eq.mpr c8
            have c8b1 : (((rd_T33 t148 6).f1).toList != ([65, 34] : List UInt8)) = false := bne_eq_false_iff_eq.mpr c8
            clear c8
            by_cases c9 : t149 = 0
            · rw [if_pos c9] at H
              have c9b0 : (t149 == 0) = true := beq_iff_eq.mpr c9
              have c9b1 : (t149 != 0) = false := bne_eq_false_iff_eq.mpr c9
              clear c9
              by_cases c10 : t150 = 0
              · rw [if_pos c10] at H
                have c10b0 : (t150 == 0) = true := beq_iff_eq.mpr c10
                have c10b1 : (t150 != 0) = false := bne_eq_false_iff_eq.mpr c10
                clear c10
                by_cases c11 : (t153.length : Int) = 0
                · rw [if_pos c11] at H
                  have c11b0 : ((t153.length : Int) == 0) = true := beq_iff_eq.mpr c11
                  have c11b1 : ((t153.length : Int) != 0) = false := bne_eq_false_iff_eq.mpr c11
                  clear c11
                  by_cases c12 : t154 = 2
                  · rw [if_pos c12] at H
                    have c12b0 : (t154 == 2) = true := beq_iff_eq.mpr c12
                    have c12b1 : (t154 != 2) = false := bne_eq_false_iff_eq.mpr c12
                    clear c12
                    by_cases c13 : t155 = 6
                    · rw [if_pos c13] at H
                      have c13b0 : (t155 == 6) = true := beq_iff_eq.mpr c13
                      have c13b1 : (t155 != 6) = false := bne_eq_false_iff_eq.mpr c13
                      clear c13
                      by_cases c14 : t161.toList = ([34, 92, 120, 48, 97, 34, 32, 59] : List UInt8)
                      · rw [if_pos c14] at H
                        have c14b0 : (t161.toList == ([34, 92, 120, 48, 97, 34, 32, 59] : List UInt8)) = true := beq_iff_eq.mpr c14
                        have c14b1 : (t161.toList != ([34, 92, 120, 48, 97, 34, 32, 59] : List UInt8)) = false := bne_eq_false_iff_eq.mpr c14
                        clear c14
                        by_cases c15 : t162 = 0
                        · rw [if_pos c15] at H
                          have c15b0 : (t162 == 0) = true := beq_iff_eq.mpr c15
                          have c15b1 : (t162 != 0) = false := bne_eq_false_iff_eq.mpr c15
                          clear c15
                          replace H := Option.bind_eq_some_iff.mp H
                          obtain ⟨t165, A160, H⟩ := H
                          replace H : (if t165 = true then ((lex_Word.f k (⟨#[]⟩ : ByteArray)).bind fun t166 => (some (!t166))) else (some false)) = some r := H
                          have A16 := Aside0.mk A160
                          clear A160
                          by_cases c17 : t165 = true
                          · subst c17
                            have H1 : ((lex_Word.f k (⟨#[]⟩ : ByteArray)).bind fun t166 => (some (!t166))) = some r := by rw [if_pos rfl] at H; exact H
                            clear H
                            have H := H1
                            clear H1
                            replace H := Option.bind_eq_some_iff.mp H
                            obtain ⟨t166, A180, H⟩ := H
                            replace H : (some (!t166)) = some r := H
                            have A18 := Aside0.mk A180
                            clear A180
                            obtain rfl := Option.some.inj H
                            go_enter Try.func10, Try.ntmps10
                            go_wp2_with (first | ((with_reducible refine gate_callee (f := 11) rfl ?_); refine goesL_ (some 10) rfl rfl Try.func11 (by kernel_rfl) rfl #[.string (⟨#[47, 47, 32, 111, 110, 101, 10, 97, 61, 60, 48, 120, 49, 62, 59, 32, 34, 92, 120, 52, 49, 92, 34, 34]⟩ : ByteArray)] rfl (by (try simp only [List.map_toArray, List.map_cons, List.map_nil]); first | done | rfl | (simp only [List.length_drop, List.length_take]; rfl)) ?_; (with_reducible refine (lex_Read.calls k (⟨#[47, 47, 32, 111, 110, 101, 10, 97, 61, 60, 48, 120, 49, 62, 59, 32, 34, 92, 120, 52, 49, 92, 34, 34]⟩ : ByteArray) t148 t149 t150 _ ?side1 A1.out).mono ?_); (case side1 => first | exact HENV.out | exact Env.below HENV.out (by repeat (first | (with_reducible first | exact HB.out | apply below_alloc | apply pw_below_drewN | apply below_drew1) | exact HB.out)) | exact Env.drewN HENV.out _ | exact Env.drawn HENV.out (by assumption)); rintro e w19 ⟨v151, rfl, ho0, hb⟩; refine ⟨_, rfl, ?_⟩; have n0_ := Aside0.mk (Kd.R_lower ho0 (below_size (by repeat (first | (with_reducible first | exact HB.out | apply below_alloc | apply pw_below_drewN | apply below_drew1) | exact HB.out)))); have n1_ := Aside0.mk (below_step (by repeat (first | (with_reducible first | exact HB.out | apply below_alloc | apply pw_below_drewN | apply below_drew1) | exact HB.out)) hb); clear HB; have HO152 := n0_; have HB := n1_; clear n0_ n1_; (try clear hb); (try clear hb2); (try clear hk); (try clear hi); (try clear ho0)) | ((with_reducible refine gate_callee (f := 11) rfl ?_); refine goesL_ (some 15) rfl rfl Try.func11 (by kernel_rfl) rfl #[.string (⟨#[97, 10, 33]⟩ : ByteArray)] rfl (by (try simp only [List.map_toArray, List.map_cons, List.map_nil]); first | done | rfl | (simp only [List.length_drop, List.length_take]; rfl)) ?_; (with_reducible refine (lex_Read.calls k (⟨#[97, 10, 33]⟩ : ByteArray) t153 t154 t155 _ ?side1 A2.out).mono ?_); (case side1 => first | exact HENV.out | exact Env.below HENV.out (by repeat (first | (with_reducible first | exact HB.out | apply below_alloc | apply pw_below_drewN | apply below_drew1) | exact HB.out)) | exact Env.drewN HENV.out _ | exact Env.drawn HENV.out (by assumption)); rintro e w20 ⟨v156, rfl, ho0, hb⟩; refine ⟨_, rfl, ?_⟩; have n0_ := Aside0.mk (Kd.R_elder' (by (with_reducible repeat (first | apply Kd.R_alloc | apply Kd.R_drewN | apply Kd.R_drew)); exact HO152.out) (Kd.R_base ho0) hb); have n1_ := Aside0.mk (Kd.R_lower (Kd.R_new' ho0 (Kd.R_lt (by (with_reducible repeat (first | apply Kd.R_alloc | apply Kd.R_drewN | apply Kd.R_drew)); exact HO152.out))) (below_size (by repeat (first | (with_reducible first | exact HB.out | apply below_alloc | apply pw_below_drewN | apply below_drew1) | exact HB.out)))); have n2_ := Aside0.mk (below_step (by repeat (first | (with_reducible first | exact HB.out | apply below_alloc | apply pw_below_drewN | apply below_drew1) | exact HB.out)) hb); clear HO152; clear HB; have HO152 := n0_; have HO157 := n1_; have HB := n2_; clear n0_ n1_ n2_; (try clear hb); (try clear hb2); (try clear hk); (try clear hi); (try clear ho0)) | ((with_reducible refine gate_dst (N := 22) rfl ?_); (try (refine gate_guard (by rfl) ?_; dsimp only)); refine Kd.R_lit k33 _ 33 ?hg (N := 22) ?hd (xs := ([(⟨2, (⟨#[10]⟩ : ByteArray), 0⟩ : S33), (⟨3, (⟨#[59]⟩ : ByteArray), 0⟩ : S33)] : List (S33))) (inner := [.int .i64 2, .string (⟨#[10]⟩ : ByteArray), .int .i64 0, .int .i64 3, .string (⟨#[59]⟩ : ByteArray), .int .i64 0]) (ok := fun _ => True) (okp := fun _ => True) ?hr ?hp (fun _ hk => hk) trivial (Below.refl _ _) (Nat.le_refl _) (by simp) ?_; (case hd => rfl); (case hg => rfl); (case hr => first | (go_simp; done) | (go_simp; rfl)); (case hp => exact (Reps.c3 (show Kd.M k33 _ _ _ (⟨2, (⟨#[10]⟩ : ByteArray), 0⟩ : S33) [.int .i64 2, .string (⟨#[10]⟩ : ByteArray), .int .i64 0] from (k33_mkM _ _ _ (⟨2, (⟨#[10]⟩ : ByteArray), 0⟩ : S33) )) (Reps.c3 (show Kd.M k33 _ _ _ (⟨3, (⟨#[59]⟩ : ByteArray), 0⟩ : S33) [.int .i64 3, .string (⟨#[59]⟩ : ByteArray), .int .i64 0] from (k33_mkM _ _ _ (⟨3, (⟨#[59]⟩ : ByteArray), 0⟩ : S33) )) (Reps.none _ _)))); intro v159 w21 ho22 hb hg_ hnew_; clear hg_ hnew_; (first | rw [← Ny158.out] at ho22 | (simp only [Int.reduceToNat] at ho22; rw [← Ny158.out] at ho22)); have n0_ := Aside0.mk (Kd.R_elder' (by (with_reducible repeat (first | apply Kd.R_alloc | apply Kd.R_drewN | apply Kd.R_drew)); exact HO152.out) (Kd.R_base ho22) hb); have n1_ := Aside0.mk (Kd.R_elder' (by (with_reducible repeat (first | apply Kd.R_alloc | apply Kd.R_drewN | apply Kd.R_drew)); exact HO157.out) (Kd.R_base ho22) hb); have n2_ := Aside0.mk (Kd.R_lower (Kd.R_new' (Kd.R_new' ho22 (Kd.R_lt (by (with_reducible repeat (first | apply Kd.R_alloc | apply Kd.R_drewN | apply Kd.R_drew)); exact HO152.out))) (Kd.R_lt (by (with_reducible repeat (first | apply Kd.R_alloc | apply Kd.R_drewN | apply Kd.R_drew)); exact HO157.out))) (below_size (by repeat (first | (with_reducible first | exact HB.out | apply below_alloc | apply pw_below_drewN | apply below_drew1) | exact HB.out)))); have n3_ := Aside0.mk (below_step (by repeat (first | (with_reducible first | exact HB.out | apply below_alloc | apply pw_below_drewN | apply below_drew1) | exact HB.out)) hb); clear HO152; clear HO157; clear HB; have HO152 := n0_; have HO157 := n1_; have HO160 := n2_; have HB := n3_; clear n0_ n1_ n2_ n3_; clear hb ho22; obtain ⟨Ao23, co23, eo23⟩ := Kd.R_slice HO160.out; subst eo23) | ((with_reducible refine gate_callee (f := 17) rfl ?_); refine goesL_ (some 23) rfl rfl Try.func17 (by kernel_rfl) rfl #[.slice Ao23 y158.length co23] rfl (by (try simp only [List.map_toArray, List.map_cons, List.map_nil]); first | done | rfl | (simp only [List.length_drop, List.length_take]; rfl)) ?_; (with_reducible refine (lex_Put.calls k _ _ y158 t161 t162 _ ?side1 ?side2 A3.out).mono ?_); (case side1 => repeat (first | exact (Kd.R_reads' HO160.out).2.2 | (with_reducible refine Kd.C_alloc ?_ _) | (with_reducible refine Kd.C_drewN ?_ _) | (with_reducible refine Kd.C_drew ?_))); (case side2 => exact (Kd.R_reads' HO160.out).2.1); rintro e w24 ⟨rfl, hb⟩; refine ⟨_, rfl, ?_⟩; have n0_ := Aside0.mk (Kd.R_below (by (with_reducible repeat (first | apply Kd.R_alloc | apply Kd.R_drewN | apply Kd.R_drew)); exact HO152.out) hb); have n1_ := Aside0.mk (Kd.R_below (by (with_reducible repeat (first | apply Kd.R_alloc | apply Kd.R_drewN | apply Kd.R_drew)); exact HO157.out) hb); have n2_ := Aside0.mk (Kd.R_below (by (with_reducible repeat (first | apply Kd.R_alloc | apply Kd.R_drewN | apply Kd.R_drew)); exact HO160.out) hb); have n3_ := Aside0.mk (below_step (by repeat (first | (with_reducible first | exact HB.out | apply below_alloc | apply pw_below_drewN | apply below_drew1) | exact HB.out)) hb); clear HO152; clear HO157; clear HO160; clear HB; have HO152 := n0_; have HO157 := n1_; have HO160 := n2_; have HB := n3_; clear n0_ n1_ n2_ n3_; (try clear hb); (try clear hb2); (try clear hk); (try clear hi); obtain ⟨Ao25, co25, eo25⟩ := Kd.R_slice HO152.out; subst eo25; have p163 : 0 ≤ (0 : Int) := (by omega); have q163 : 0 < (t148.length : Int) := of_decide_eq_true (by first | (with_reducible assumption) | assumption); obtain ⟨ad163, e163, hx163_0, hx163_1, hx163_2⟩ := at_T33 (Kd.R_reads' HO152.out).2.2 0 p163 q163; cases e163; have qi163 : (0 < t148.length) = True := eq_true (by omega); (try rw [show ((0 : Int)).toNat = 0 from rfl] at hx163_0); (try rw [show 0 * 3 = 0 from rfl] at hx163_0); (try rw [Addr.add_zero'] at hx163_0); (try rw [show ((0 : Int)).toNat = 0 from rfl] at hx163_1); (try rw [show 0 * 3 = 0 from rfl] at hx163_1); (try rw [Addr.add_zero'] at hx163_1); (try rw [show ((0 : Int)).toNat = 0 from rfl] at hx163_2); (try rw [show 0 * 3 = 0 from rfl] at hx163_2); (try rw [Addr.add_zero'] at hx163_2); replace p163 := eq_true p163; replace q163 := eq_true q163; have p164 : 0 ≤ (6 : Int) := (by omega); have q164 : 6 < (t148.length : Int) := of_decide_eq_true (by first | (with_reducible assumption) | assumption); obtain ⟨ad164, e164, hx164_0, hx164_1, hx164_2⟩ := at_T33 (Kd.R_reads' HO152.out).2.2 6 p164 q164; obtain rfl : ad163 = ad164 := (by injection e164); (try simp only [show (6 : Int).toNat = 6 from rfl, Nat.reduceMul, Nat.reduceEqDiff, Go.Addr.add, ↓reduceIte] at hx164_0); (try simp only [show (6 : Int).toNat = 6 from rfl, Nat.reduceMul, Nat.reduceEqDiff, Go.Addr.add, ↓reduceIte] at hx164_1); (try simp only [show (6 : Int).toNat = 6 from rfl, Nat.reduceMul, Nat.reduceEqDiff, Go.Addr.add, ↓reduceIte] at hx164_2); have qi164 : (6 < t148.length) = True := eq_true (by omega); (try rw [show ((6 : Int)).toNat = 6 from rfl] at hx164_0); (try rw [show 6 * 3 = 18 from rfl] at hx164_0); (try rw [show ((6 : Int)).toNat = 6 from rfl] at hx164_1); (try rw [show 6 * 3 = 18 from rfl] at hx164_1); (try rw [show ((6 : Int)).toNat = 6 from rfl] at hx164_2); (try rw [show 6 * 3 = 18 from rfl] at hx164_2); replace p164 := eq_true p164; replace q164 := eq_true q164; obtain ⟨Ao26, co26, eo26⟩ := Kd.R_slice HO157.out; subst eo26) | (go_at_call 14; (with_reducible refine (lex_Word.calls k (⟨#[97, 64, 48]⟩ : ByteArray) true _ A16.out).mono ?_); rintro e w' ⟨rfl, ⟨nd, rfl⟩⟩) | (go_at_call 14; (with_reducible refine (lex_Word.calls k (⟨#[]⟩ : ByteArray) t166 _ A18.out).mono ?_); rintro e w' ⟨rfl, ⟨nd, rfl⟩⟩))
                            go_ret
                            exact ⟨by first | rfl | (simp [errW_none, errW_some] <;> rfl) | (simp [*, errW_none, errW_some] <;> rfl), by repeat (first | (with_reducible first | exact HB.out | apply below_alloc | apply pw_below_drewN | apply below_drew1) | exact HB.out)⟩
                          · replace c17 := Bool.eq_false_iff.mpr c17
                            subst c17
                            have H1 : (some false) = some r := by rw [if_neg (show ¬ (false = true) by decide)] at H; exact H
                            clear H
                            have H := H1
                            clear H1
                            obtain rfl := Option.some.inj H
                            exact absurd hr_ (by decide)
                        · rw [if_neg c15] at H
                          have c15b0 : (t162 == 0) = false := beq_eq_false_iff_ne.mpr c15
                          have c15b1 : (t162 != 0) = true := bne_iff_ne.mpr c15
                          obtain rfl := Option.some.inj H
                          exact absurd hr_ (by decide)
                      · rw [if_neg c14] at H
                        have c14b0 : (t161.toList == ([34, 92, 120, 48, 97, 34, 32, 59] : List UInt8)) = false := beq_eq_false_iff_ne.mpr c14
                        have c14b1 : (t161.toList != ([34, 92, 120, 48, 97, 34, 32, 59] : List UInt8)) = true := bne_iff_ne.mpr c14
                        obtain rfl := Option.some.inj H
                        exact absurd hr_ (by decide)
                    · rw [if_neg c13] at H
                      have c13b0 : (t155 == 6) = false := beq_eq_false_iff_ne.mpr c13
                      have c13b1 : (t155 != 6) = true := bne_iff_ne.mpr c13
                      obtain rfl := Option.some.inj H
                      exact absurd hr_ (by decide)
                  · rw [if_neg c12] at H
                    have c12b0 : (t154 == 2) = false := beq_eq_false_iff_ne.mpr c12
                    have c12b1 : (t154 != 2) = true := bne_iff_ne.mpr c12
                    obtain rfl := Option.some.inj H
                    exact absurd hr_ (by decide)
                · rw [if_neg c11] at H
                  have c11b0 : ((t153.length : Int) == 0) = false := beq_eq_false_iff_ne.mpr c11
                  have c11b1 : ((t153.length : Int) != 0) = true := bne_iff_ne.mpr c11
                  have c11b2 : ¬ (t153 = []) := fun h_ => c11 (by rw [h_]; rfl)
                  obtain rfl := Option.some.inj H
                  exact absurd hr_ (by decide)
              · rw [if_neg c10] at H
                have c10b0 : (t150 == 0) = false := beq_eq_false_iff_ne.mpr c10
                have c10b1 : (t150 != 0) = true := bne_iff_ne.mpr c10
                obtain rfl := Option.some.inj H
                exact absurd hr_ (by decide)
            · rw [if_neg c9] at H
              have c9b0 : (t149 == 0) = false := beq_eq_false_iff_ne.mpr c9
              have c9b1 : (t149 != 0) = true := bne_iff_ne.mpr c9
              obtain rfl := Option.some.inj H
              exact absurd hr_ (by decide)
          · rw [if_neg c8] at H
            have c8b0 : (((rd_T33 t148 6).f1).toList == ([65, 34] : List UInt8)) = false := beq_eq_false_iff_ne.mpr c8
            have c8b1 : (((rd_T33 t148 6).f1).toList != ([65, 34] : List UInt8)) = true := bne_iff_ne.mpr c8
            obtain rfl := Option.some.inj H
            exact absurd hr_ (by decide)
        · rw [if_neg c7] at H
          exact absurd H (by simp)
      · rw [if_neg c6] at H
        have c6b0 : (((rd_T33 t148 0).f0) == 1 && ((((rd_T33 t148 0).f1).toList) == ([97] : List UInt8) && (((rd_T33 t148 0).f2) == 2))) = false := by simpa using c6
        (try (have c6b1 : decide (((rd_T33 t148 0).f0) = 1 && ((((rd_T33 t148 0).f1).toList) == ([97] : List UInt8) && (((rd_T33 t148 0).f2) == 2))) = false := by simpa using c6))
        (try (have c6b2 : (((rd_T33 t148 0).f0) == 1 && ((((rd_T33 t148 0).f1).toList) == ([97] : List UInt8) && (((rd_T33 t148 0).f2) == 2))) = false := by simpa using c6))
        (try (have c6b3 : ¬ (((rd_T33 t148 0).f0) = 1 && ((((rd_T33 t148 0).f1).toList) == ([97] : List UInt8) && (((rd_T33 t148 0).f2) == 2))) := by simpa using c6))
        clear c6
        obtain rfl := Option.some.inj H
        exact absurd hr_ (by decide)
    · rw [if_neg c5] at H
      exact absurd H (by simp)
  · rw [if_neg c4] at H
    have c4b0 : ((t148.length : Int) == 7) = false := beq_eq_false_iff_ne.mpr c4
    have c4b1 : ((t148.length : Int) != 7) = true := bne_iff_ne.mpr c4
    obtain rfl := Option.some.inj H
    exact absurd hr_ (by decide)
def postilionlaw44_awake.f (k : Nat) : Option Bool := if postilionlaw44_awake.f0 k = some true then some true else none
theorem postilionlaw44_awake.mono : ∀ k, LeO (postilionlaw44_awake.f k) (postilionlaw44_awake.f (k + 1)) := by
  intro k r h
  unfold postilionlaw44_awake.f at h ⊢
  by_cases e : postilionlaw44_awake.f0 k = some true
  · rw [if_pos e] at h
    rw [if_pos (postilionlaw44_awake.mono0 k _ e)]
    exact h
  · rw [if_neg e] at h
    cases h
theorem postilionlaw44_awake.calls (k : Nat)  (r : Bool) (w : World) (HE : Env w) (h : postilionlaw44_awake.f k  = some r) :
    Calls Try.prog 10 #[] w fun e w' => e = .returned (.bool r) ∧ Below w.heap.size w w' := by
  unfold postilionlaw44_awake.f at h
  by_cases e : postilionlaw44_awake.f0 k = some true
  · rw [if_pos e] at h
    obtain rfl := Option.some.inj h
    exact postilionlaw44_awake.calls0 k true w HE e rfl
  · rw [if_neg e] at h
    cases h

/-! ### postilionref44_Few: function 16 -/
mutual
def postilionref44_Few.l0 : Nat → List (S33) → Int → Option (Bool)
  | 0, _, _ => none
  | k + 1, x0, x3 => if x3 < (x0.length : Int) then (postilionref44_Few.j1 k x0 x3 (decide (x3 < 60))) else (postilionref44_Few.j1 k x0 x3 false)
def postilionref44_Few.j1 : Nat → List (S33) → Int → Bool → Option (Bool)
  | 0, _, _, _ => none
  | k + 1, x0, x3, x11 => if x11 = true then (if 0 ≤ x3 then (if x3 < (x0.length : Int) then (if (((rd_T33 x0 x3).f1).size : Int) > 100 then (some false) else (postilionref44_Few.l0 k x0 (wrap64 (x3 + 1)))) else (none)) else (none)) else (some (decide ((x0.length : Int) ≤ 60)))
end
def postilionref44_Few.f (k : Nat) (l0 : List (S33)) : Option (Bool) := postilionref44_Few.l0 k l0 0
theorem postilionref44_Few.mono_l : ∀ k, (∀ y0 y1, LeO (postilionref44_Few.l0 k y0 y1) (postilionref44_Few.l0 (k + 1) y0 y1)) ∧ (∀ y0 y1 y2, LeO (postilionref44_Few.j1 k y0 y1 y2) (postilionref44_Few.j1 (k + 1) y0 y1 y2))
  | 0 => ⟨fun _ _ r h => by simp [postilionref44_Few.l0] at h, fun _ _ _ r h => by simp [postilionref44_Few.j1] at h⟩
  | k + 1 => by
    obtain ⟨ih0, ih1⟩ := postilionref44_Few.mono_l k
    refine ⟨?_, ?_⟩
    · intro y0 y1
      unfold postilionref44_Few.l0
      repeat' first
      | (with_reducible exact ih0 _ _)
      | (with_reducible exact ih1 _ _ _)
      | (with_reducible exact LeO.refl _)
      | (with_reducible exact LeO.none _)
      | (with_reducible refine LeO.ite ?_ ?_)
      | (with_reducible refine LeO.bind ?_ (fun _ => ?_))
      | exact ih0 _ _
      | exact ih1 _ _ _
      | exact LeO.none _
      | refine LeO.ite ?_ ?_
      | refine LeO.bind ?_ (fun _ => ?_)
    · intro y0 y1 y2
      unfold postilionref44_Few.j1
      repeat' first
      | (with_reducible exact ih0 _ _)
      | (with_reducible exact ih1 _ _ _)
      | (with_reducible exact LeO.refl _)
      | (with_reducible exact LeO.none _)
      | (with_reducible refine LeO.ite ?_ ?_)
      | (with_reducible refine LeO.bind ?_ (fun _ => ?_))
      | exact ih0 _ _
      | exact ih1 _ _ _
      | exact LeO.none _
      | refine LeO.ite ?_ ?_
      | refine LeO.bind ?_ (fun _ => ?_)
theorem postilionref44_Few.mono : ∀ a0 k, LeO (postilionref44_Few.f k a0) (postilionref44_Few.f (k + 1) a0) := by
  intro a0 k
  obtain ⟨ih0, ih1⟩ := postilionref44_Few.mono_l k
  unfold postilionref44_Few.f
  repeat' first
      | (with_reducible exact ih0 _ _)
      | (with_reducible exact ih1 _ _ _)
      | (with_reducible exact LeO.refl _)
      | (with_reducible exact LeO.none _)
      | (with_reducible refine LeO.ite ?_ ?_)
      | (with_reducible refine LeO.bind ?_ (fun _ => ?_))
      | exact ih0 _ _
      | exact ih1 _ _ _
      | exact LeO.none _
      | refine LeO.ite ?_ ?_
      | refine LeO.bind ?_ (fun _ => ?_)
set_option maxHeartbeats 8000000 in
set_option maxRecDepth 100000 in
theorem postilionref44_Few.calls (k : Nat) (A0 : Option Addr) (c0 : Nat) (l0 : List (S33)) (r : Bool) (w : World) (hr0 : Kd.C k33 w A0 l0.length l0) (hc0 : l0.length ≤ c0) (h : postilionref44_Few.f k l0 = some r) :
    Calls Try.prog 16 #[.slice A0 l0.length c0] w fun e w' => e = .returned (.bool r) ∧ Drawn0 w w' := by
  have HR0 := Aside0.mk hr0
  have HC0 := Aside0.mk hc0
  clear hr0 hc0
  have H : (postilionref44_Few.l0 k l0 0) = some r := h
  clear h
  have H' := Aside0.mk H
  clear H
  go_enter Try.func16, Try.ntmps16
  go_wp2
  go_loopg [3] k (fun kq v3 w' => ∃ (x3_1 : Int), v3 = .int .i64 x3_1 ∧ Aside0 (postilionref44_Few.l0 kq l0 x3_1 = some r) ∧ Aside0 (kq ≤ k) ∧ Drawn0 w w')
  case atStart => exact ⟨(0), (by first | rfl | (simp; done) | (simp [*]; done)), H', ⟨Nat.le_refl _⟩, by repeat (first | exact Drawn0.refl _ | apply Drawn0.step)⟩
  case round =>
    clear H'
    try clear c1
    obtain ⟨x3_1, rfl, HA, HK1, ⟨m1, rfl⟩⟩ := hrel
    cases gk with
    | zero => exact absurd HA.out (by simp [postilionref44_Few.l0])
    | succ k1 =>
      have H := HA.out
      clear HA
      simp only [postilionref44_Few.l0] at H
      have HC2 := Aside0.mk H
      clear H
      go_upto_region 2 with (fail)
      go_cut [11] (fun v11 wc => ∃ (kq : Nat) (x11_1 : Bool), v11 = .bool x11_1 ∧ Aside0 (postilionref44_Few.j1 kq l0 x3_1 x11_1 = some r) ∧ Aside0 (kq ≤ k1) ∧ Drawn0 w wc)
      case first =>
        have H := HC2.out
        clear HC2
        by_cases c3 : x3_1 < (l0.length : Int)
        · rw [if_pos c3] at H
          have c3b0 : decide (x3_1 < (l0.length : Int)) = true := decide_eq_true c3
          clear c3
          (first | rw [c3b0] | (simp only [i64_w, i32_w]; rw [c3b0]) | skip)
          have H' := Aside0.mk H
          clear H
          go_wp2
          go_meet
          case rel => exact ⟨_, (decide (x3_1 < 60)), (by first | rfl | (simp; done) | (simp [*]; done)), H', ⟨by have := HK1.out; first | omega | exact Nat.le_refl _⟩, by repeat (first | exact Drawn0.refl _ | apply Drawn0.step)⟩
        · rw [if_neg c3] at H
          have c3b0 : decide (x3_1 < (l0.length : Int)) = false := decide_eq_false c3
          clear c3
          (first | rw [c3b0] | (simp only [i64_w, i32_w]; rw [c3b0]) | skip)
          have H' := Aside0.mk H
          clear H
          go_wp2
          go_meet
          case rel => exact ⟨_, (false), (by first | rfl | (simp; done) | (simp [*]; done)), H', ⟨by have := HK1.out; first | omega | exact Nat.le_refl _⟩, by repeat (first | exact Drawn0.refl _ | apply Drawn0.step)⟩
      case rest =>
        clear HC2
        try clear c1
        try clear p2
        try clear c3
        try clear c3b0
        obtain ⟨kq, x11_1, rfl, HA, HJ1, ⟨mc1, rfl⟩⟩ := hcut
        cases kq with
        | zero => exact absurd HA.out (by simp [postilionref44_Few.j1])
        | succ kj1 =>
          have H := HA.out
          clear HA
          simp only [postilionref44_Few.j1] at H
          by_cases c4 : x11_1 = true
          · subst c4
            have H1 : (if 0 ≤ x3_1 then (if x3_1 < (l0.length : Int) then (if (((rd_T33 l0 x3_1).f1).size : Int) > 100 then (some false) else (postilionref44_Few.l0 kj1 l0 (wrap64 (x3_1 + 1)))) else (none)) else (none)) = some r := by rw [if_pos rfl] at H; exact H
            clear H
            have H := H1
            clear H1
            by_cases c5 : 0 ≤ x3_1
            · rw [if_pos c5] at H
              have c5b0 : decide (0 ≤ x3_1) = true := decide_eq_true c5
              clear c5
              by_cases c6 : x3_1 < (l0.length : Int)
              · rw [if_pos c6] at H
                have c6b0 : decide (x3_1 < (l0.length : Int)) = true := decide_eq_true c6
                clear c6
                by_cases c7 : (((rd_T33 l0 x3_1).f1).size : Int) > 100
                · rw [if_pos c7] at H
                  have c7b0 : decide (100 < (((rd_T33 l0 x3_1).f1).size : Int)) = true := decide_eq_true c7
                  have c7b1 : decide (100 < ((rd_T33 l0 x3_1).f1).size) = true := decide_eq_true (by omega)
                  clear c7
                  obtain rfl := Option.some.inj H
                  have p167 : 0 ≤ (x3_1 : Int) := of_decide_eq_true (by first | (with_reducible assumption) | assumption)
                  have q167 : x3_1 < (l0.length : Int) := of_decide_eq_true (by first | (with_reducible assumption) | assumption)
                  obtain ⟨ad167, e167, hx167_0, hx167_1, hx167_2⟩ := at_T33 HR0.out x3_1 p167 q167
                  cases e167
                  replace p167 := eq_true p167
                  replace q167 := eq_true q167
                  go_wp2
                  go_ret
                  exact ⟨by first | rfl | (simp; done) | (simp [*]; done), by repeat (first | exact Drawn0.refl _ | apply Drawn0.step)⟩
                · rw [if_neg c7] at H
                  have c7b0 : decide (100 < (((rd_T33 l0 x3_1).f1).size : Int)) = false := decide_eq_false c7
                  have c7b1 : decide (100 < ((rd_T33 l0 x3_1).f1).size) = false := decide_eq_false (by omega)
                  clear c7
                  have H' := Aside0.mk H
                  clear H
                  have p167 : 0 ≤ (x3_1 : Int) := of_decide_eq_true (by first | (with_reducible assumption) | assumption)
                  have q167 : x3_1 < (l0.length : Int) := of_decide_eq_true (by first | (with_reducible assumption) | assumption)
                  obtain ⟨ad167, e167, hx167_0, hx167_1, hx167_2⟩ := at_T33 HR0.out x3_1 p167 q167
                  cases e167
                  replace p167 := eq_true p167
                  replace q167 := eq_true q167
                  go_wp2
                  go_roundg kj1
                  case measure => have := HK1.out; have := HJ1.out; omega
                  case rel => exact ⟨(wrap64 (x3_1 + 1)), (by first | rfl | (simp; done) | (simp [*]; done)), H', ⟨by have := HK1.out; have := HJ1.out; omega⟩, by repeat (first | exact Drawn0.refl _ | apply Drawn0.step)⟩
              · rw [if_neg c6] at H
                exact absurd H (by simp)
            · rw [if_neg c5] at H
              exact absurd H (by simp)
          · replace c4 := Bool.eq_false_iff.mpr c4
            subst c4
            have H1 : (some (decide ((l0.length : Int) ≤ 60))) = some r := by rw [if_neg (show ¬ (false = true) by decide)] at H; exact H
            clear H
            have H := H1
            clear H1
            obtain rfl := Option.some.inj H
            go_wp2
            go_ret
            exact ⟨by first | rfl | (simp; done) | (simp [*]; done), by repeat (first | exact Drawn0.refl _ | apply Drawn0.step)⟩

/-! ### postilionref44_in: function 40 -/
def postilionref44_in.l0 : Nat → ByteArray → Int → Int → Option (Bool)
  | 0, _, _, _ => none
  | k + 1, x0, x1, x5 => if x5 < (x0.size : Int) then (if 0 ≤ x5 then (if (bt x0 x5) = x1 then (some true) else (postilionref44_in.l0 k x0 x1 (wrap64 (x5 + 1)))) else (none)) else (some false)
def postilionref44_in.f (k : Nat) (a0 : ByteArray) (a1 : Int) : Option (Bool) := postilionref44_in.l0 k a0 a1 0
theorem postilionref44_in.mono_l : ∀ k, (∀ y0 y1 y2, LeO (postilionref44_in.l0 k y0 y1 y2) (postilionref44_in.l0 (k + 1) y0 y1 y2))
  | 0 => fun _ _ _ r h => by simp [postilionref44_in.l0] at h
  | k + 1 => by
    have ih0 := postilionref44_in.mono_l k
    · intro y0 y1 y2
      unfold postilionref44_in.l0
      repeat' first
      | (with_reducible exact ih0 _ _ _)
      | (with_reducible exact LeO.refl _)
      | (with_reducible exact LeO.none _)
      | (with_reducible refine LeO.ite ?_ ?_)
      | (with_reducible refine LeO.bind ?_ (fun _ => ?_))
      | exact ih0 _ _ _
      | exact LeO.none _
      | refine LeO.ite ?_ ?_
      | refine LeO.bind ?_ (fun _ => ?_)
theorem postilionref44_in.mono : ∀ a0 a1 k, LeO (postilionref44_in.f k a0 a1) (postilionref44_in.f (k + 1) a0 a1) := by
  intro a0 a1 k
  have ih0 := postilionref44_in.mono_l k
  unfold postilionref44_in.f
  repeat' first
      | (with_reducible exact ih0 _ _ _)
      | (with_reducible exact LeO.refl _)
      | (with_reducible exact LeO.none _)
      | (with_reducible refine LeO.ite ?_ ?_)
      | (with_reducible refine LeO.bind ?_ (fun _ => ?_))
      | exact ih0 _ _ _
      | exact LeO.none _
      | refine LeO.ite ?_ ?_
      | refine LeO.bind ?_ (fun _ => ?_)
set_option maxHeartbeats 8000000 in
set_option maxRecDepth 100000 in
theorem postilionref44_in.calls (k : Nat) (a0 : ByteArray) (a1 : Int) (r : Bool) (w : World) (h : postilionref44_in.f k a0 a1 = some r) :
    Calls Try.prog 40 #[.string a0, .int .u8 a1] w fun e w' => e = .returned (.bool r) ∧ Drawn0 w w' := by
  have H : (postilionref44_in.l0 k a0 a1 0) = some r := h
  clear h
  have H' := Aside0.mk H
  clear H
  go_enter Try.func40, Try.ntmps40
  go_wp2
  go_loopg [5] k (fun kq v5 w' => ∃ (x5_1 : Int), v5 = .int .i64 x5_1 ∧ Aside0 (postilionref44_in.l0 kq a0 a1 x5_1 = some r) ∧ Aside0 (kq ≤ k) ∧ Drawn0 w w')
  case atStart => exact ⟨(0), (by first | rfl | (simp; done) | (simp [*]; done)), H', ⟨Nat.le_refl _⟩, by repeat (first | exact Drawn0.refl _ | apply Drawn0.step)⟩
  case round =>
    clear H'
    try clear p2
    obtain ⟨x5_1, rfl, HA, HK1, ⟨m1, rfl⟩⟩ := hrel
    cases gk with
    | zero => exact absurd HA.out (by simp [postilionref44_in.l0])
    | succ k1 =>
      have H := HA.out
      clear HA
      simp only [postilionref44_in.l0] at H
      by_cases c3 : x5_1 < (a0.size : Int)
      · rw [if_pos c3] at H
        have c3b0 : decide (x5_1 < (a0.size : Int)) = true := decide_eq_true c3
        clear c3
        by_cases c4 : 0 ≤ x5_1
        · rw [if_pos c4] at H
          have c4b0 : decide (0 ≤ x5_1) = true := decide_eq_true c4
          clear c4
          by_cases c6 : (bt a0 x5_1) = a1
          · rw [if_pos c6] at H
            have c6b0 : ((bt a0 x5_1) == a1) = true := beq_iff_eq.mpr c6
            have c6b1 : ((bt a0 x5_1) != a1) = false := bne_eq_false_iff_eq.mpr c6
            clear c6
            obtain rfl := Option.some.inj H
            have p5 : 0 ≤ (x5_1 : Int) := of_decide_eq_true (by first | (with_reducible assumption) | assumption)
            have q5 : x5_1 < (a0.size : Int) := of_decide_eq_true (by first | (with_reducible assumption) | assumption)
            have hx5 := bt_at a0 x5_1
            replace p5 := eq_true p5
            replace q5 := eq_true q5
            go_wp2
            go_ret
            exact ⟨by first | rfl | (simp; done) | (simp [*]; done), by repeat (first | exact Drawn0.refl _ | apply Drawn0.step)⟩
          · rw [if_neg c6] at H
            have c6b0 : ((bt a0 x5_1) == a1) = false := beq_eq_false_iff_ne.mpr c6
            have c6b1 : ((bt a0 x5_1) != a1) = true := bne_iff_ne.mpr c6
            have H' := Aside0.mk H
            clear H
            have p5 : 0 ≤ (x5_1 : Int) := of_decide_eq_true (by first | (with_reducible assumption) | assumption)
            have q5 : x5_1 < (a0.size : Int) := of_decide_eq_true (by first | (with_reducible assumption) | assumption)
            have hx5 := bt_at a0 x5_1
            replace p5 := eq_true p5
            replace q5 := eq_true q5
            go_wp2
            go_roundg k1
            case measure => have := HK1.out; omega
            case rel => exact ⟨(wrap64 (x5_1 + 1)), (by first | rfl | (simp; done) | (simp [*]; done)), H', ⟨by have := HK1.out; omega⟩, by repeat (first | exact Drawn0.refl _ | apply Drawn0.step)⟩
        · rw [if_neg c4] at H
          exact absurd H (by simp)
      · rw [if_neg c3] at H
        have c3b0 : decide (x5_1 < (a0.size : Int)) = false := decide_eq_false c3
        clear c3
        obtain rfl := Option.some.inj H
        go_wp2
        go_ret
        exact ⟨by first | rfl | (simp; done) | (simp [*]; done), by repeat (first | exact Drawn0.refl _ | apply Drawn0.step)⟩

end Go.Proofs.Ytbgndegdegfebaa.Q
