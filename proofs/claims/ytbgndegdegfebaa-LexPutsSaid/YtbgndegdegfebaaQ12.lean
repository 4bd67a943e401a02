-- PRINTED by print.py (a twelfth state) out of the translation. Not trusted: Lean checks it.
import Derived.Test.YtbgndegdegfebaaQ7
import Derived.Test.YtbgndegdegfebaaQ8
import Derived.Test.YtbgndegdegfebaaQ11
namespace Go.Proofs.Ytbgndegdegfebaa.Q
open Go.RowKit Go.Proofs.YtbgndegdegfebaaW.PrintWords Go.Proofs.YtbgndegdegfebaaW.PrintLast Go.Proofs.YtbgndegdegfebaaW.PrintMore
attribute [local go_sem] max2_int min2_int max_two min_two max_three min_three max_four min_four   -- for this text's walks alone
set_option linter.unusedVariables false
set_option linter.unusedSimpArgs false

-- EXT 11 lex_Read making rounds env deps=36,37
/-! ### lex_Read: function 11, by hand -/
def lex_Read.l0 : Nat → List S33 → ByteArray → Int → Option (List S33 × Int × Int)
  | 0, _, _, _ => none
  | k + 1, out, s, ln => (lex_reader_skip.f k s ln).bind fun a => if a.1 = true then (if a.2.1.toList = ([] : List UInt8) then some (out, 0, 0) else if (out.length : Int) = 4096 then some (([] : List S33), a.2.2, 7) else (lex_reader_next.f k a.2.1 a.2.2).bind fun b => if b.2.2.2.1 = true then (if out.length < 4398046511104 then lex_Read.l0 k (out ++ [(⟨b.1, b.2.1, b.2.2.1⟩ : S33)]) b.2.2.2.2.1 b.2.2.2.2.2 else none) else some (([] : List S33), b.2.2.2.2.2, 6)) else some (([] : List S33), a.2.2, 6)
def lex_Read.f (k : Nat) (a0 : ByteArray) : Option (List S33 × Int × Int) := lex_Read.l0 k ([] : List S33) a0 1
theorem lex_Read.mono_l : ∀ k out s ln, LeO (lex_Read.l0 k out s ln) (lex_Read.l0 (k + 1) out s ln) := by
  intro k
  induction k with
  | zero => intro out s ln r h; simp [lex_Read.l0] at h
  | succ k ih =>
    intro out s ln
    unfold lex_Read.l0
    repeat' first
      | exact ih _ _ _
      | exact lex_reader_skip.mono _ _ _
      | exact lex_reader_next.mono _ _ _
      | (with_reducible exact LeO.refl _)
      | refine LeO.ite ?_ ?_
      | refine LeO.bind ?_ (fun _ => ?_)
theorem lex_Read.mono : ∀ a0 k, LeO (lex_Read.f k a0) (lex_Read.f (k + 1) a0) := fun a0 k => lex_Read.mono_l k _ _ _
set_option maxHeartbeats 4000000 in
set_option maxRecDepth 100000 in
theorem lex_Read.calls (k : Nat) (a0 : ByteArray) (r1 : List (S33)) (r2 : Int) (r3 : Int) (w : World) (HE : Env w) (h : lex_Read.f k a0 = some (r1, r2, r3)) :
    Calls Try.prog 11 #[.string a0] w fun e w' => ∃ v0_ : Value, e = .returned (.tuple #[v0_, .int .i64 r2, .int .i64 r3]) ∧ Kd.R k33 33 w' w.heap.size (fun _ => True) v0_ r1 ∧ Below w.heap.size w w' := by
  have hu33 := Try.underlying33
  have hu59 := Try.underlying59
  have HENV := Aside0.mk HE
  have H' := Aside0.mk (show lex_Read.l0 k ([] : List S33) a0 1 = some (r1, r2, r3) from h)
  clear HE h
  go_enter Try.func11, Try.ntmps11
  go_wp2_with (first | ((with_reducible refine gate_dst (N := 11) rfl ?_); refine box_event ?hg (N := 11) ?hd (cs := #[.string a0, .int .i64 1]) (t := 59) ?hr ?_; (case hd => rfl); (case hg => rfl); (case hr => first | (go_simp; done) | (go_simp; rfl)); intro g hg w1 hbox hb; have HI0 := Aside0.mk (show IsS59 w w1 g a0 1 from ⟨hbox, Nat.le_of_eq hg.symm⟩); have HB := Aside0.mk hb; clear hb hbox hg))
  go_loopg [6] k (fun kq v6 w' => ∃ (out : List S33) (x0 : ByteArray) (x1 : Int), Aside0 (lex_Read.l0 kq out x0 x1 = some (r1, r2, r3)) ∧ Aside0 (kq ≤ k) ∧ Aside0 (Kd.R k33 33 w' w.heap.size (fun k_ => k_ ≠ g) v6 out) ∧ Aside0 (IsS59 w w' g x0 x1) ∧ Aside0 (Below w.heap.size w w'))
  case atStart => exact ⟨[], a0, 1, H', ⟨Nat.le_refl _⟩, ⟨Kd.R_nil _ _ _ _ _⟩, HI0, HB⟩
  case round =>
    clear H' HI0 HB
    obtain ⟨out, x0, x1, HA, HK1, HO, HI, HB⟩ := hrel
    obtain ⟨Ao, co, eo⟩ := Kd.R_slice HO.out
    subst eo
    cases gk with
    | zero => exact absurd HA.out (by simp [lex_Read.l0])
    | succ k1 =>
      have H := HA.out
      clear HA
      simp only [lex_Read.l0] at H
      replace H := Option.bind_eq_some_iff.mp H
      obtain ⟨⟨b1, y0, y1⟩, A0, H⟩ := H
      have A1 := Aside0.mk A0
      clear A0
      cases b1 with
      | false =>
        rw [if_neg (by simp)] at H
        simp only [Option.some.injEq, Prod.mk.injEq] at H
        obtain ⟨rfl, rfl, rfl⟩ := H
        go_wp2_with (first | ((with_reducible refine gate_callee (f := 36) rfl ?_); refine goesL_ (some 13) rfl rfl Try.func36 (by kernel_rfl) rfl #[.pointer (some ⟨g, 0, none⟩)] rfl (by (try simp only [List.map_toArray, List.map_cons, List.map_nil]); first | done | rfl) ?_; (with_reducible refine (lex_reader_skip.calls k1 g x0 x1 false y0 y1 w _ HI.out HB.out HENV.out A1.out).mono ?_); rintro e w2 ⟨rfl, hI2, hB2, hK2⟩; have HI2 := Aside0.mk hI2; have HB2 := Aside0.mk hB2; have HO2 := Aside0.mk (Kd.R_keep HO.out hK2 (fun _ h_ => h_)); have hc0 := (cellS59_0 hI2.1); have hc1 := (cellS59_1 hI2.1); have hf0 := blk_frozen hI2.1 0; have hf1 := blk_frozen hI2.1 1; clear hI2 hB2 hK2; refine ⟨_, rfl, ?_⟩))
        go_quiet (fail)
        go_wp2
        go_ret3
        exact ⟨_, rfl, Kd.R_nil _ _ _ _ _, by repeat (first | exact HB2.out | apply pw_below_drewN | apply below_drew1)⟩
      | true =>
        rw [if_pos rfl] at H
        by_cases c2 : y0.toList = ([] : List UInt8)
        · rw [if_pos c2] at H
          have c2b0 : (y0.toList == ([] : List UInt8)) = true := beq_iff_eq.mpr c2
          clear c2
          simp only [Option.some.injEq, Prod.mk.injEq] at H
          obtain ⟨rfl, rfl, rfl⟩ := H
          go_wp2_with (first | ((with_reducible refine gate_callee (f := 36) rfl ?_); refine goesL_ (some 13) rfl rfl Try.func36 (by kernel_rfl) rfl #[.pointer (some ⟨g, 0, none⟩)] rfl (by (try simp only [List.map_toArray, List.map_cons, List.map_nil]); first | done | rfl) ?_; (with_reducible refine (lex_reader_skip.calls k1 g x0 x1 true y0 y1 w _ HI.out HB.out HENV.out A1.out).mono ?_); rintro e w2 ⟨rfl, hI2, hB2, hK2⟩; have HI2 := Aside0.mk hI2; have HB2 := Aside0.mk hB2; have HO2 := Aside0.mk (Kd.R_keep HO.out hK2 (fun _ h_ => h_)); have hc0 := (cellS59_0 hI2.1); have hc1 := (cellS59_1 hI2.1); have hf0 := blk_frozen hI2.1 0; have hf1 := blk_frozen hI2.1 1; clear hI2 hB2 hK2; refine ⟨_, rfl, ?_⟩))
          go_ret3
          exact ⟨_, rfl, Kd.R_mono HO2.out (fun _ _ => trivial), HB2.out⟩
        · rw [if_neg c2] at H
          have c2b0 : (y0.toList == ([] : List UInt8)) = false := beq_eq_false_iff_ne.mpr c2
          clear c2
          by_cases c3 : (out.length : Int) = 4096
          · rw [if_pos c3] at H
            have c3b0 : ((out.length : Int) == 4096) = true := beq_iff_eq.mpr c3
            clear c3
            simp only [Option.some.injEq, Prod.mk.injEq] at H
            obtain ⟨rfl, rfl, rfl⟩ := H
            go_wp2_with (first | ((with_reducible refine gate_callee (f := 36) rfl ?_); refine goesL_ (some 13) rfl rfl Try.func36 (by kernel_rfl) rfl #[.pointer (some ⟨g, 0, none⟩)] rfl (by (try simp only [List.map_toArray, List.map_cons, List.map_nil]); first | done | rfl) ?_; (with_reducible refine (lex_reader_skip.calls k1 g x0 x1 true y0 y1 w _ HI.out HB.out HENV.out A1.out).mono ?_); rintro e w2 ⟨rfl, hI2, hB2, hK2⟩; have HI2 := Aside0.mk hI2; have HB2 := Aside0.mk hB2; have HO2 := Aside0.mk (Kd.R_keep HO.out hK2 (fun _ h_ => h_)); have hc0 := (cellS59_0 hI2.1); have hc1 := (cellS59_1 hI2.1); have hf0 := blk_frozen hI2.1 0; have hf1 := blk_frozen hI2.1 1; clear hI2 hB2 hK2; refine ⟨_, rfl, ?_⟩))
            go_quiet (fail)
            go_wp2
            go_ret3
            exact ⟨_, rfl, Kd.R_nil _ _ _ _ _, by repeat (first | exact HB2.out | apply pw_below_drewN | apply below_drew1)⟩
          · rw [if_neg c3] at H
            have c3b0 : ((out.length : Int) == 4096) = false := beq_eq_false_iff_ne.mpr c3
            clear c3
            replace H := Option.bind_eq_some_iff.mp H
            obtain ⟨⟨q1, q2, q3, q4, q5, q6⟩, A0, H⟩ := H
            have A2 := Aside0.mk A0
            clear A0
            cases q4 with
            | false =>
              rw [if_neg (by simp)] at H
              simp only [Option.some.injEq, Prod.mk.injEq] at H
              obtain ⟨rfl, rfl, rfl⟩ := H
              go_wp2_with (first | ((with_reducible refine gate_callee (f := 36) rfl ?_); refine goesL_ (some 13) rfl rfl Try.func36 (by kernel_rfl) rfl #[.pointer (some ⟨g, 0, none⟩)] rfl (by (try simp only [List.map_toArray, List.map_cons, List.map_nil]); first | done | rfl) ?_; (with_reducible refine (lex_reader_skip.calls k1 g x0 x1 true y0 y1 w _ HI.out HB.out HENV.out A1.out).mono ?_); rintro e w2 ⟨rfl, hI2, hB2, hK2⟩; have HI2 := Aside0.mk hI2; have HB2 := Aside0.mk hB2; have HO2 := Aside0.mk (Kd.R_keep HO.out hK2 (fun _ h_ => h_)); have hc0 := (cellS59_0 hI2.1); have hc1 := (cellS59_1 hI2.1); have hf0 := blk_frozen hI2.1 0; have hf1 := blk_frozen hI2.1 1; clear hI2 hB2 hK2; refine ⟨_, rfl, ?_⟩) | ((with_reducible refine gate_callee (f := 37) rfl ?_); refine goesL_ (some 29) rfl rfl Try.func37 (by kernel_rfl) rfl #[.pointer (some ⟨g, 0, none⟩)] rfl (by (try simp only [List.map_toArray, List.map_cons, List.map_nil]); first | done | rfl) ?_; (with_reducible refine (lex_reader_next.calls k1 g y0 y1 q1 q2 q3 false q5 q6 w _ HI2.out HB2.out A2.out).mono ?_); rintro e w3 ⟨rfl, hI3, hB3, hK3⟩; have HI3 := Aside0.mk hI3; have HB3 := Aside0.mk hB3; have HO3 := Aside0.mk (Kd.R_keep HO2.out hK3 (fun _ h_ => h_)); have hlt := IsS59.lt hI3; have hne := Nat.ne_of_gt hlt; have hc40 := (cellS59_0 (IsS59.alloc hI3 (.cells #[.int .i64 q1, .string q2, .int .i64 q3] 33)).1); have hc41 := (cellS59_1 (IsS59.alloc hI3 (.cells #[.int .i64 q1, .string q2, .int .i64 q3] 33)).1); clear hlt; clear hI3 hB3 hK3; refine ⟨_, rfl, ?_⟩))
              go_quiet (fail)
              go_wp2
              go_ret3
              exact ⟨_, rfl, Kd.R_nil _ _ _ _ _, by repeat (first | exact (below_alloc HB3.out _) | apply pw_below_drewN | apply below_drew1)⟩
            | true =>
              rw [if_pos rfl] at H
              by_cases c4 : out.length < 4398046511104
              rotate_left
              · rw [if_neg c4] at H
                cases H
              rw [if_pos c4] at H
              have LM := Aside0.mk c4
              clear c4
              have H' := Aside0.mk H
              clear H
              go_wp2_with (first | ((with_reducible refine gate_callee (f := 36) rfl ?_); refine goesL_ (some 13) rfl rfl Try.func36 (by kernel_rfl) rfl #[.pointer (some ⟨g, 0, none⟩)] rfl (by (try simp only [List.map_toArray, List.map_cons, List.map_nil]); first | done | rfl) ?_; (with_reducible refine (lex_reader_skip.calls k1 g x0 x1 true y0 y1 w _ HI.out HB.out HENV.out A1.out).mono ?_); rintro e w2 ⟨rfl, hI2, hB2, hK2⟩; have HI2 := Aside0.mk hI2; have HB2 := Aside0.mk hB2; have HO2 := Aside0.mk (Kd.R_keep HO.out hK2 (fun _ h_ => h_)); have hc0 := (cellS59_0 hI2.1); have hc1 := (cellS59_1 hI2.1); have hf0 := blk_frozen hI2.1 0; have hf1 := blk_frozen hI2.1 1; clear hI2 hB2 hK2; refine ⟨_, rfl, ?_⟩) | ((with_reducible refine gate_callee (f := 37) rfl ?_); refine goesL_ (some 29) rfl rfl Try.func37 (by kernel_rfl) rfl #[.pointer (some ⟨g, 0, none⟩)] rfl (by (try simp only [List.map_toArray, List.map_cons, List.map_nil]); first | done | rfl) ?_; (with_reducible refine (lex_reader_next.calls k1 g y0 y1 q1 q2 q3 true q5 q6 w _ HI2.out HB2.out A2.out).mono ?_); rintro e w3 ⟨rfl, hI3, hB3, hK3⟩; have HI3 := Aside0.mk hI3; have HB3 := Aside0.mk hB3; have HO3 := Aside0.mk (Kd.R_keep HO2.out hK3 (fun _ h_ => h_)); have hlt := IsS59.lt hI3; have hne := Nat.ne_of_gt hlt; have hc40 := (cellS59_0 (IsS59.alloc hI3 (.cells #[.int .i64 q1, .string q2, .int .i64 q3] 33)).1); have hc41 := (cellS59_1 (IsS59.alloc hI3 (.cells #[.int .i64 q1, .string q2, .int .i64 q3] 33)).1); clear hlt; clear hI3 hB3 hK3; refine ⟨_, rfl, ?_⟩) | ((with_reducible refine gate_builtin (b := .append) (xs := #[.tmp 34, .tmp 36]) rfl ?_); at_builtin; refine Kd.R_append k33 (w0 := w) w.heap.size rfl (.tmp 34) (.tmp 36) 23 33 (.agg #[(.int .i64 0), (.string ⟨#[]⟩), (.int .i64 0)]) 32 rfl Try.underlying23 info33 rfl (by decide) (by omega) (.slice Ao out.length co) out (⟨q1, q2, q3⟩ : S33) [.int .i64 q1, .string q2, .int .i64 q3] (fun k_ => k_ ≠ g) (fun _ => False) rfl (by first | (go_simp; done) | (go_simp; rfl)) ?aP (fun _ hk => hk.elim) ?aF ?aO ?aB ?aS ?aL ?_; (case aP => exact k33_mkM _ _ _ (⟨q1, q2, q3⟩ : S33)); (case aB => exact (below_alloc HB3.out _)); (case aF => exact (fun k_ hk => IsS59.fresh (IsS59.alloc HI3.out _) k_ hk)); (case aO => exact (Kd.R_alloc HO3.out _)); (case aS => exact (below_size (below_alloc HB3.out _))); (case aL => have := LM.out; omega); intro v1 w5 ho hb hg hat; have HI5 := Aside0.mk (IsS59.grown (IsS59.alloc HI3.out _) hg (IsS59.own_ne HI3.out HO3.out (by decide))); have HO5 := Aside0.mk ho; have HB5 := Aside0.mk hb; clear ho hb hg hat))
              go_roundg k1
              case measure => have := HK1.out; omega
              case rel => exact ⟨_, q5, q6, H', ⟨by have := HK1.out; omega⟩, HO5, HI5, HB5⟩

end Go.Proofs.Ytbgndegdegfebaa.Q
