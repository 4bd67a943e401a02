-- PRINTED by print.py (a twelfth state) out of the translation. Not trusted: Lean checks it.
import Derived.Test.YtbgndegdegfebaaQ7
namespace Go.Proofs.Ytbgndegdegfebaa.Q
open Go.RowKit Go.Proofs.YtbgndegdegfebaaW.PrintWords Go.Proofs.YtbgndegdegfebaaW.PrintLast Go.Proofs.YtbgndegdegfebaaW.PrintMore
attribute [local go_sem] max2_int min2_int max_two min_two max_three min_three max_four min_four   -- for this text's walks alone
set_option linter.unusedVariables false
set_option linter.unusedSimpArgs false

-- EXT 36 lex_reader_skip making rounds env deps=52,65,66,67,68
/-! ### lex_reader_skip: function 36, by hand -/
def lex_reader_skip.f : Nat → ByteArray → Int → Option (Bool × ByteArray × Int)
  | 0, _, _ => none
  | k + 1, s, ln => if s.size = 0 then some (true, s, ln) else
    (strings_IndexByte.f (⟨#[32, 9, 10, 13]⟩ : ByteArray) (bt s 0)).bind fun t => if 0 ≤ t then (lex_reader_cut.f s ln 1).bind fun c => lex_reader_skip.f k c.2.1 c.2.2
    else (strings_HasPrefix.f s (⟨#[47, 47]⟩ : ByteArray)).bind fun p => if p = true then (strings_Cut.f s (⟨#[10]⟩ : ByteArray)).bind fun c3 => (lex_reader_cut.f s ln (c3.1.size : Int)).bind fun c => lex_reader_skip.f k c.2.1 c.2.2
    else (strings_HasPrefix.f s (⟨#[47, 42]⟩ : ByteArray)).bind fun p2 => if p2 = true then (if 2 ≤ (s.size : Int) then (strings_Index.f (s.extract 2 s.size) (⟨#[42, 47]⟩ : ByteArray)).bind fun n => if n < 0 then some (false, s, ln) else (lex_reader_cut.f s ln (wrap64 (wrap64 (2 + n) + 2))).bind fun c => lex_reader_skip.f k c.2.1 c.2.2 else none)
    else some (true, s, ln)
theorem lex_reader_skip.mono : ∀ s ln k, LeO (lex_reader_skip.f k s ln) (lex_reader_skip.f (k + 1) s ln) := by
  intro s ln k
  induction k generalizing s ln with
  | zero => intro r h; simp [lex_reader_skip.f] at h
  | succ k ih =>
    unfold lex_reader_skip.f
    repeat' first
      | exact ih _ _
      | (with_reducible exact LeO.refl _)
      | refine LeO.ite ?_ ?_
      | refine LeO.bind ?_ (fun _ => ?_)
set_option maxHeartbeats 4000000 in
set_option maxRecDepth 100000 in
theorem lex_reader_skip.calls (k : Nat) (g : Nat) (s0_0 : ByteArray) (s0_1 : Int) (r1 : Bool) (r2 : ByteArray) (r3 : Int) (w0 w : World) (hI : IsS59 w0 w g s0_0 s0_1) (hB : Below w0.heap.size w0 w) (HE : Env w0) (h : lex_reader_skip.f k s0_0 s0_1 = some (r1, r2, r3)) :
    Calls Try.prog 36 #[.pointer (some ⟨g, 0, none⟩)] w fun e w' => e = .returned (.bool r1) ∧ IsS59 w0 w' g r2 r3 ∧ Below w0.heap.size w0 w' ∧ KeepBut w w' g none := by
  have HI0 := Aside0.mk hI
  have HK := Aside0.mk (KeepBut.refl w g none)
  have HB := Aside0.mk hB
  have HENV := Aside0.mk HE
  have H' := Aside0.mk h
  clear hI hB HE h
  go_enter Try.func36, Try.ntmps36
  go_wp2
  go_step3
  go_wp2
  go_step3
  go_wp2
  go_loopg [3, 6] k (fun kq v3 v6 w' => ∃ (x0 : ByteArray) (x1 : Int), Aside0 (lex_reader_skip.f kq x0 x1 = some (r1, r2, r3)) ∧ Aside0 (kq ≤ k) ∧ Aside0 (IsS59 w0 w' g x0 x1) ∧ Aside0 (KeepBut w w' g none) ∧ Aside0 (Below w0.heap.size w0 w'))
  case atStart => exact ⟨s0_0, s0_1, H', ⟨Nat.le_refl _⟩, HI0, HK, HB⟩
  case round =>
    clear H'
    obtain ⟨x0, x1, HA, HK1, HI, HK, HB⟩ := hrel
    cases gk with
    | zero => exact absurd HA.out (by simp [lex_reader_skip.f])
    | succ k1 =>
      have H := HA.out
      clear HA
      simp only [lex_reader_skip.f] at H
      have hc0 := (cellS59_0 HI.out.1)
      have hc1 := (cellS59_1 HI.out.1)
      have hf0 := blk_frozen HI.out.1 0
      have hf1 := blk_frozen HI.out.1 1
      by_cases c1 : x0.size = 0
      · rw [if_pos c1] at H
        have c1b : x0.toList = ([] : List UInt8) := by rw [ByteArray.toList_eq]; exact List.length_eq_zero_iff.1 (by rw [data_length]; exact c1)
        have c1b0 : (x0.toList == ([] : List UInt8)) = true := beq_iff_eq.mpr c1b
        have c1b1 : (x0.toList != ([] : List UInt8)) = false := bne_eq_false_iff_eq.mpr c1b
        clear c1 c1b
        simp only [Option.some.injEq, Prod.mk.injEq] at H
        obtain ⟨rfl, rfl, rfl⟩ := H
        go_wp2_with (first | ((with_reducible refine gate_callee (f := 65) rfl ?_); refine goesL_ (some 18) rfl rfl Try.func65 (by kernel_rfl) rfl #[.string (⟨#[32, 9, 10, 13]⟩ : ByteArray), .int .u8 (((x0[0]'hpos).toNat : Nat) : Int)] rfl (by (try simp only [List.map_toArray, List.map_cons, List.map_nil]); first | done | rfl | (simp only [List.length_drop, List.length_take]; rfl)) ?_; (with_reducible refine (strings_IndexByte.calls (⟨#[32, 9, 10, 13]⟩ : ByteArray) _ t1 _ A1.out).mono ?_); rintro e w2 ⟨rfl, ⟨nd, rfl⟩⟩; refine ⟨_, rfl, ?_⟩) | ((with_reducible refine gate_callee (f := 67) rfl ?_); refine goesL_ (some 27) rfl rfl Try.func67 (by kernel_rfl) rfl #[.string x0, .string (⟨#[47, 47]⟩ : ByteArray)] rfl (by (try simp only [List.map_toArray, List.map_cons, List.map_nil]); first | done | rfl | (simp only [List.length_drop, List.length_take]; rfl)) ?_; (with_reducible refine (strings_HasPrefix.calls x0 (⟨#[47, 47]⟩ : ByteArray) p1 _ A2.out).mono ?_); rintro e w2 ⟨rfl, ⟨nd, rfl⟩⟩; refine ⟨_, rfl, ?_⟩) | ((with_reducible refine gate_callee (f := 52) rfl ?_); refine goesL_ (some 33) rfl rfl Try.func52 (by kernel_rfl) rfl #[.string x0, .string (⟨#[10]⟩ : ByteArray)] rfl (by (try simp only [List.map_toArray, List.map_cons, List.map_nil]); first | done | rfl | (simp only [List.length_drop, List.length_take]; rfl)) ?_; (with_reducible refine (strings_Cut.calls x0 (⟨#[10]⟩ : ByteArray) y1 y2 y3 _ (by first | exact Env.below HENV.out (by repeat (first | exact HB.out | apply pw_below_drewN | apply below_drew1))) A3.out).mono ?_); rintro e w2 ⟨rfl, ⟨nd, rfl⟩⟩; refine ⟨_, rfl, ?_⟩) | ((with_reducible refine gate_callee (f := 67) rfl ?_); refine goesL_ (some 46) rfl rfl Try.func67 (by kernel_rfl) rfl #[.string x0, .string (⟨#[47, 42]⟩ : ByteArray)] rfl (by (try simp only [List.map_toArray, List.map_cons, List.map_nil]); first | done | rfl | (simp only [List.length_drop, List.length_take]; rfl)) ?_; (with_reducible refine (strings_HasPrefix.calls x0 (⟨#[47, 42]⟩ : ByteArray) p2 _ A4.out).mono ?_); rintro e w2 ⟨rfl, ⟨nd, rfl⟩⟩; refine ⟨_, rfl, ?_⟩) | ((with_reducible refine gate_callee (f := 68) rfl ?_); refine goesL_ (some 52) rfl rfl Try.func68 (by kernel_rfl) rfl #[.string (x0.extract 2 x0.size), .string (⟨#[42, 47]⟩ : ByteArray)] rfl (by (try simp only [List.map_toArray, List.map_cons, List.map_nil]); first | done | rfl | (simp only [List.length_drop, List.length_take]; rfl)) ?_; (with_reducible refine (strings_Index.calls (x0.extract 2 x0.size) (⟨#[42, 47]⟩ : ByteArray) n _ (by first | exact Env.below HENV.out (by repeat (first | exact HB.out | apply pw_below_drewN | apply below_drew1))) A5.out).mono ?_); rintro e w2 ⟨rfl, ⟨nd, rfl⟩⟩; refine ⟨_, rfl, ?_⟩))
        (try rw [Exit.noGoto_ret])
        go_ret
        exact ⟨rfl, (by repeat (first | exact HI.out | apply IsS59.drewN | apply IsS59.drew)), (by repeat (first | exact HB.out | apply pw_below_drewN | apply below_drew1)), (by repeat (first | exact HK.out | apply keep_drewN | apply keep_drew))⟩
      · rw [if_neg c1] at H
        have c1c : ¬ x0.toList = ([] : List UInt8) := fun e => c1 (by rw [← data_length, ← ByteArray.toList_eq, e]; rfl)
        have c1b0 : (x0.toList == ([] : List UInt8)) = false := beq_eq_false_iff_ne.mpr c1c
        have c1b1 : (x0.toList != ([] : List UInt8)) = true := bne_iff_ne.mpr c1c
        have q1 : (0 : Int) < (x0.size : Int) := by omega
        have hpos : 0 < x0.size := by omega
        rw [show bt x0 0 = (((x0[0]'hpos).toNat : Nat) : Int) from by unfold bt; exact dif_pos hpos] at H
        replace q1 := eq_true q1
        clear c1 c1c
        replace H := Option.bind_eq_some_iff.mp H
        obtain ⟨t1, A0, H⟩ := H
        have A1 := Aside0.mk A0
        clear A0
        by_cases c2 : 0 ≤ t1
        · rw [if_pos c2] at H
          have c2b0 : decide (t1 ≥ 0) = true := decide_eq_true c2
          clear c2
          replace H := Option.bind_eq_some_iff.mp H
          obtain ⟨⟨z1, z2, z3⟩, A0, H⟩ := H
          have A9 := Aside0.mk A0
          clear A0
          have H' := Aside0.mk H
          clear H
          go_wp2_with (first | ((with_reducible refine gate_callee (f := 65) rfl ?_); refine goesL_ (some 18) rfl rfl Try.func65 (by kernel_rfl) rfl #[.string (⟨#[32, 9, 10, 13]⟩ : ByteArray), .int .u8 (((x0[0]'hpos).toNat : Nat) : Int)] rfl (by (try simp only [List.map_toArray, List.map_cons, List.map_nil]); first | done | rfl | (simp only [List.length_drop, List.length_take]; rfl)) ?_; (with_reducible refine (strings_IndexByte.calls (⟨#[32, 9, 10, 13]⟩ : ByteArray) _ t1 _ A1.out).mono ?_); rintro e w2 ⟨rfl, ⟨nd, rfl⟩⟩; refine ⟨_, rfl, ?_⟩) | ((with_reducible refine gate_callee (f := 66) rfl ?_); refine goesL_ (some 21) rfl rfl Try.func66 (by kernel_rfl) rfl #[.pointer (some ⟨g, 0, none⟩), .int .i64 1] rfl (by (try simp only [List.map_toArray, List.map_cons, List.map_nil]); first | done | rfl | (simp only [List.length_drop, List.length_take]; rfl)) ?_; (with_reducible refine (lex_reader_cut.calls g x0 x1 1 z1 z2 z3 w0 _ (by repeat (first | exact HI.out | apply IsS59.drewN | apply IsS59.drew)) (by repeat (first | exact HB.out | apply pw_below_drewN | apply below_drew1)) A9.out).mono ?_); rintro e w2 ⟨rfl, hI2, hB2, hK2⟩; have HI2 := Aside0.mk hI2; have HB2 := Aside0.mk hB2; have HK2 := Aside0.mk (KeepBut.trans (by repeat (first | exact HK.out | apply keep_drewN | apply keep_drew)) hK2 (.inl rfl)); clear hI2 hB2 hK2; refine ⟨_, rfl, ?_⟩))
          go_roundg k1
          case measure => have := HK1.out; omega
          case rel => exact ⟨z2, z3, H', ⟨by have := HK1.out; omega⟩, HI2, HK2, HB2⟩
        · rw [if_neg c2] at H
          have c2b0 : decide (t1 ≥ 0) = false := decide_eq_false c2
          clear c2
          replace H := Option.bind_eq_some_iff.mp H
          obtain ⟨p1, A0, H⟩ := H
          have A2 := Aside0.mk A0
          clear A0
          cases p1 with
          | true =>
            rw [if_pos rfl] at H
            replace H := Option.bind_eq_some_iff.mp H
            obtain ⟨⟨y1, y2, y3⟩, A0, H⟩ := H
            have A3 := Aside0.mk A0
            clear A0
            replace H := Option.bind_eq_some_iff.mp H
            obtain ⟨⟨z1, z2, z3⟩, A0, H⟩ := H
            have A9 := Aside0.mk A0
            clear A0
            have H' := Aside0.mk H
            clear H
            go_wp2_with (first | ((with_reducible refine gate_callee (f := 65) rfl ?_); refine goesL_ (some 18) rfl rfl Try.func65 (by kernel_rfl) rfl #[.string (⟨#[32, 9, 10, 13]⟩ : ByteArray), .int .u8 (((x0[0]'hpos).toNat : Nat) : Int)] rfl (by (try simp only [List.map_toArray, List.map_cons, List.map_nil]); first | done | rfl | (simp only [List.length_drop, List.length_take]; rfl)) ?_; (with_reducible refine (strings_IndexByte.calls (⟨#[32, 9, 10, 13]⟩ : ByteArray) _ t1 _ A1.out).mono ?_); rintro e w2 ⟨rfl, ⟨nd, rfl⟩⟩; refine ⟨_, rfl, ?_⟩) | ((with_reducible refine gate_callee (f := 67) rfl ?_); refine goesL_ (some 27) rfl rfl Try.func67 (by kernel_rfl) rfl #[.string x0, .string (⟨#[47, 47]⟩ : ByteArray)] rfl (by (try simp only [List.map_toArray, List.map_cons, List.map_nil]); first | done | rfl | (simp only [List.length_drop, List.length_take]; rfl)) ?_; (with_reducible refine (strings_HasPrefix.calls x0 (⟨#[47, 47]⟩ : ByteArray) true _ A2.out).mono ?_); rintro e w2 ⟨rfl, ⟨nd, rfl⟩⟩; refine ⟨_, rfl, ?_⟩) | ((with_reducible refine gate_callee (f := 52) rfl ?_); refine goesL_ (some 33) rfl rfl Try.func52 (by kernel_rfl) rfl #[.string x0, .string (⟨#[10]⟩ : ByteArray)] rfl (by (try simp only [List.map_toArray, List.map_cons, List.map_nil]); first | done | rfl | (simp only [List.length_drop, List.length_take]; rfl)) ?_; (with_reducible refine (strings_Cut.calls x0 (⟨#[10]⟩ : ByteArray) y1 y2 y3 _ (by first | exact Env.below HENV.out (by repeat (first | exact HB.out | apply pw_below_drewN | apply below_drew1))) A3.out).mono ?_); rintro e w2 ⟨rfl, ⟨nd, rfl⟩⟩; refine ⟨_, rfl, ?_⟩) | ((with_reducible refine gate_callee (f := 66) rfl ?_); refine goesL_ (some 40) rfl rfl Try.func66 (by kernel_rfl) rfl #[.pointer (some ⟨g, 0, none⟩), .int .i64 (y1.size : Int)] rfl (by (try simp only [List.map_toArray, List.map_cons, List.map_nil]); first | done | rfl | (simp only [List.length_drop, List.length_take]; rfl)) ?_; (with_reducible refine (lex_reader_cut.calls g x0 x1 (y1.size : Int) z1 z2 z3 w0 _ (by repeat (first | exact HI.out | apply IsS59.drewN | apply IsS59.drew)) (by repeat (first | exact HB.out | apply pw_below_drewN | apply below_drew1)) A9.out).mono ?_); rintro e w2 ⟨rfl, hI2, hB2, hK2⟩; have HI2 := Aside0.mk hI2; have HB2 := Aside0.mk hB2; have HK2 := Aside0.mk (KeepBut.trans (by repeat (first | exact HK.out | apply keep_drewN | apply keep_drew)) hK2 (.inl rfl)); clear hI2 hB2 hK2; refine ⟨_, rfl, ?_⟩))
            go_roundg k1
            case measure => have := HK1.out; omega
            case rel => exact ⟨z2, z3, H', ⟨by have := HK1.out; omega⟩, HI2, HK2, HB2⟩
          | false =>
            rw [if_neg (by simp)] at H
            replace H := Option.bind_eq_some_iff.mp H
            obtain ⟨p2, A0, H⟩ := H
            have A4 := Aside0.mk A0
            clear A0
            cases p2 with
            | true =>
              rw [if_pos rfl] at H
              by_cases c3 : 2 ≤ (x0.size : Int)
              rotate_left
              · rw [if_neg c3] at H
                cases H
              rw [if_pos c3] at H
              have c3b0 := eq_true c3
              have c3b1 : decide (2 ≤ (x0.size : Int)) = true := decide_eq_true c3
              clear c3
              replace H := Option.bind_eq_some_iff.mp H
              obtain ⟨n, A0, H⟩ := H
              have A5 := Aside0.mk A0
              clear A0
              by_cases c4 : n < 0
              · rw [if_pos c4] at H
                have c4b0 : decide (n < 0) = true := decide_eq_true c4
                clear c4
                simp only [Option.some.injEq, Prod.mk.injEq] at H
                obtain ⟨rfl, rfl, rfl⟩ := H
                go_wp2_with (first | ((with_reducible refine gate_callee (f := 65) rfl ?_); refine goesL_ (some 18) rfl rfl Try.func65 (by kernel_rfl) rfl #[.string (⟨#[32, 9, 10, 13]⟩ : ByteArray), .int .u8 (((x0[0]'hpos).toNat : Nat) : Int)] rfl (by (try simp only [List.map_toArray, List.map_cons, List.map_nil]); first | done | rfl | (simp only [List.length_drop, List.length_take]; rfl)) ?_; (with_reducible refine (strings_IndexByte.calls (⟨#[32, 9, 10, 13]⟩ : ByteArray) _ t1 _ A1.out).mono ?_); rintro e w2 ⟨rfl, ⟨nd, rfl⟩⟩; refine ⟨_, rfl, ?_⟩) | ((with_reducible refine gate_callee (f := 67) rfl ?_); refine goesL_ (some 27) rfl rfl Try.func67 (by kernel_rfl) rfl #[.string x0, .string (⟨#[47, 47]⟩ : ByteArray)] rfl (by (try simp only [List.map_toArray, List.map_cons, List.map_nil]); first | done | rfl | (simp only [List.length_drop, List.length_take]; rfl)) ?_; (with_reducible refine (strings_HasPrefix.calls x0 (⟨#[47, 47]⟩ : ByteArray) false _ A2.out).mono ?_); rintro e w2 ⟨rfl, ⟨nd, rfl⟩⟩; refine ⟨_, rfl, ?_⟩) | ((with_reducible refine gate_callee (f := 52) rfl ?_); refine goesL_ (some 33) rfl rfl Try.func52 (by kernel_rfl) rfl #[.string x0, .string (⟨#[10]⟩ : ByteArray)] rfl (by (try simp only [List.map_toArray, List.map_cons, List.map_nil]); first | done | rfl | (simp only [List.length_drop, List.length_take]; rfl)) ?_; (with_reducible refine (strings_Cut.calls x0 (⟨#[10]⟩ : ByteArray) y1 y2 y3 _ (by first | exact Env.below HENV.out (by repeat (first | exact HB.out | apply pw_below_drewN | apply below_drew1))) A3.out).mono ?_); rintro e w2 ⟨rfl, ⟨nd, rfl⟩⟩; refine ⟨_, rfl, ?_⟩) | ((with_reducible refine gate_callee (f := 67) rfl ?_); refine goesL_ (some 46) rfl rfl Try.func67 (by kernel_rfl) rfl #[.string x0, .string (⟨#[47, 42]⟩ : ByteArray)] rfl (by (try simp only [List.map_toArray, List.map_cons, List.map_nil]); first | done | rfl | (simp only [List.length_drop, List.length_take]; rfl)) ?_; (with_reducible refine (strings_HasPrefix.calls x0 (⟨#[47, 42]⟩ : ByteArray) true _ A4.out).mono ?_); rintro e w2 ⟨rfl, ⟨nd, rfl⟩⟩; refine ⟨_, rfl, ?_⟩) | ((with_reducible refine gate_callee (f := 68) rfl ?_); refine goesL_ (some 52) rfl rfl Try.func68 (by kernel_rfl) rfl #[.string (x0.extract 2 x0.size), .string (⟨#[42, 47]⟩ : ByteArray)] rfl (by (try simp only [List.map_toArray, List.map_cons, List.map_nil]); first | done | rfl | (simp only [List.length_drop, List.length_take]; rfl)) ?_; (with_reducible refine (strings_Index.calls (x0.extract 2 x0.size) (⟨#[42, 47]⟩ : ByteArray) n _ (by first | exact Env.below HENV.out (by repeat (first | exact HB.out | apply pw_below_drewN | apply below_drew1))) A5.out).mono ?_); rintro e w2 ⟨rfl, ⟨nd, rfl⟩⟩; refine ⟨_, rfl, ?_⟩))
                (try rw [Exit.noGoto_ret])
                go_ret
                exact ⟨rfl, (by repeat (first | exact HI.out | apply IsS59.drewN | apply IsS59.drew)), (by repeat (first | exact HB.out | apply pw_below_drewN | apply below_drew1)), (by repeat (first | exact HK.out | apply keep_drewN | apply keep_drew))⟩
              · rw [if_neg c4] at H
                have c4b0 : decide (n < 0) = false := decide_eq_false c4
                clear c4
                replace H := Option.bind_eq_some_iff.mp H
                obtain ⟨⟨z1, z2, z3⟩, A0, H⟩ := H
                have A9 := Aside0.mk A0
                clear A0
                have H' := Aside0.mk H
                clear H
                go_wp2_with (first | ((with_reducible refine gate_callee (f := 65) rfl ?_); refine goesL_ (some 18) rfl rfl Try.func65 (by kernel_rfl) rfl #[.string (⟨#[32, 9, 10, 13]⟩ : ByteArray), .int .u8 (((x0[0]'hpos).toNat : Nat) : Int)] rfl (by (try simp only [List.map_toArray, List.map_cons, List.map_nil]); first | done | rfl | (simp only [List.length_drop, List.length_take]; rfl)) ?_; (with_reducible refine (strings_IndexByte.calls (⟨#[32, 9, 10, 13]⟩ : ByteArray) _ t1 _ A1.out).mono ?_); rintro e w2 ⟨rfl, ⟨nd, rfl⟩⟩; refine ⟨_, rfl, ?_⟩) | ((with_reducible refine gate_callee (f := 67) rfl ?_); refine goesL_ (some 27) rfl rfl Try.func67 (by kernel_rfl) rfl #[.string x0, .string (⟨#[47, 47]⟩ : ByteArray)] rfl (by (try simp only [List.map_toArray, List.map_cons, List.map_nil]); first | done | rfl | (simp only [List.length_drop, List.length_take]; rfl)) ?_; (with_reducible refine (strings_HasPrefix.calls x0 (⟨#[47, 47]⟩ : ByteArray) false _ A2.out).mono ?_); rintro e w2 ⟨rfl, ⟨nd, rfl⟩⟩; refine ⟨_, rfl, ?_⟩) | ((with_reducible refine gate_callee (f := 67) rfl ?_); refine goesL_ (some 46) rfl rfl Try.func67 (by kernel_rfl) rfl #[.string x0, .string (⟨#[47, 42]⟩ : ByteArray)] rfl (by (try simp only [List.map_toArray, List.map_cons, List.map_nil]); first | done | rfl | (simp only [List.length_drop, List.length_take]; rfl)) ?_; (with_reducible refine (strings_HasPrefix.calls x0 (⟨#[47, 42]⟩ : ByteArray) true _ A4.out).mono ?_); rintro e w2 ⟨rfl, ⟨nd, rfl⟩⟩; refine ⟨_, rfl, ?_⟩) | ((with_reducible refine gate_callee (f := 68) rfl ?_); refine goesL_ (some 52) rfl rfl Try.func68 (by kernel_rfl) rfl #[.string (x0.extract 2 x0.size), .string (⟨#[42, 47]⟩ : ByteArray)] rfl (by (try simp only [List.map_toArray, List.map_cons, List.map_nil]); first | done | rfl | (simp only [List.length_drop, List.length_take]; rfl)) ?_; (with_reducible refine (strings_Index.calls (x0.extract 2 x0.size) (⟨#[42, 47]⟩ : ByteArray) n _ (by first | exact Env.below HENV.out (by repeat (first | exact HB.out | apply pw_below_drewN | apply below_drew1))) A5.out).mono ?_); rintro e w2 ⟨rfl, ⟨nd, rfl⟩⟩; refine ⟨_, rfl, ?_⟩) | ((with_reducible refine gate_callee (f := 66) rfl ?_); refine goesL_ (some 59) rfl rfl Try.func66 (by kernel_rfl) rfl #[.pointer (some ⟨g, 0, none⟩), .int .i64 (wrap64 (wrap64 (2 + n) + 2))] rfl (by (try simp only [List.map_toArray, List.map_cons, List.map_nil]); first | done | rfl | (simp only [List.length_drop, List.length_take]; rfl)) ?_; (with_reducible refine (lex_reader_cut.calls g x0 x1 (wrap64 (wrap64 (2 + n) + 2)) z1 z2 z3 w0 _ (by repeat (first | exact HI.out | apply IsS59.drewN | apply IsS59.drew)) (by repeat (first | exact HB.out | apply pw_below_drewN | apply below_drew1)) A9.out).mono ?_); rintro e w2 ⟨rfl, hI2, hB2, hK2⟩; have HI2 := Aside0.mk hI2; have HB2 := Aside0.mk hB2; have HK2 := Aside0.mk (KeepBut.trans (by repeat (first | exact HK.out | apply keep_drewN | apply keep_drew)) hK2 (.inl rfl)); clear hI2 hB2 hK2; refine ⟨_, rfl, ?_⟩))
                go_roundg k1
                case measure => have := HK1.out; omega
                case rel => exact ⟨z2, z3, H', ⟨by have := HK1.out; omega⟩, HI2, HK2, HB2⟩
            | false =>
              rw [if_neg (by simp)] at H
              simp only [Option.some.injEq, Prod.mk.injEq] at H
              obtain ⟨rfl, rfl, rfl⟩ := H
              go_wp2_with (first | ((with_reducible refine gate_callee (f := 65) rfl ?_); refine goesL_ (some 18) rfl rfl Try.func65 (by kernel_rfl) rfl #[.string (⟨#[32, 9, 10, 13]⟩ : ByteArray), .int .u8 (((x0[0]'hpos).toNat : Nat) : Int)] rfl (by (try simp only [List.map_toArray, List.map_cons, List.map_nil]); first | done | rfl | (simp only [List.length_drop, List.length_take]; rfl)) ?_; (with_reducible refine (strings_IndexByte.calls (⟨#[32, 9, 10, 13]⟩ : ByteArray) _ t1 _ A1.out).mono ?_); rintro e w2 ⟨rfl, ⟨nd, rfl⟩⟩; refine ⟨_, rfl, ?_⟩) | ((with_reducible refine gate_callee (f := 67) rfl ?_); refine goesL_ (some 27) rfl rfl Try.func67 (by kernel_rfl) rfl #[.string x0, .string (⟨#[47, 47]⟩ : ByteArray)] rfl (by (try simp only [List.map_toArray, List.map_cons, List.map_nil]); first | done | rfl | (simp only [List.length_drop, List.length_take]; rfl)) ?_; (with_reducible refine (strings_HasPrefix.calls x0 (⟨#[47, 47]⟩ : ByteArray) false _ A2.out).mono ?_); rintro e w2 ⟨rfl, ⟨nd, rfl⟩⟩; refine ⟨_, rfl, ?_⟩) | ((with_reducible refine gate_callee (f := 52) rfl ?_); refine goesL_ (some 33) rfl rfl Try.func52 (by kernel_rfl) rfl #[.string x0, .string (⟨#[10]⟩ : ByteArray)] rfl (by (try simp only [List.map_toArray, List.map_cons, List.map_nil]); first | done | rfl | (simp only [List.length_drop, List.length_take]; rfl)) ?_; (with_reducible refine (strings_Cut.calls x0 (⟨#[10]⟩ : ByteArray) y1 y2 y3 _ (by first | exact Env.below HENV.out (by repeat (first | exact HB.out | apply pw_below_drewN | apply below_drew1))) A3.out).mono ?_); rintro e w2 ⟨rfl, ⟨nd, rfl⟩⟩; refine ⟨_, rfl, ?_⟩) | ((with_reducible refine gate_callee (f := 67) rfl ?_); refine goesL_ (some 46) rfl rfl Try.func67 (by kernel_rfl) rfl #[.string x0, .string (⟨#[47, 42]⟩ : ByteArray)] rfl (by (try simp only [List.map_toArray, List.map_cons, List.map_nil]); first | done | rfl | (simp only [List.length_drop, List.length_take]; rfl)) ?_; (with_reducible refine (strings_HasPrefix.calls x0 (⟨#[47, 42]⟩ : ByteArray) false _ A4.out).mono ?_); rintro e w2 ⟨rfl, ⟨nd, rfl⟩⟩; refine ⟨_, rfl, ?_⟩) | ((with_reducible refine gate_callee (f := 68) rfl ?_); refine goesL_ (some 52) rfl rfl Try.func68 (by kernel_rfl) rfl #[.string (x0.extract 2 x0.size), .string (⟨#[42, 47]⟩ : ByteArray)] rfl (by (try simp only [List.map_toArray, List.map_cons, List.map_nil]); first | done | rfl | (simp only [List.length_drop, List.length_take]; rfl)) ?_; (with_reducible refine (strings_Index.calls (x0.extract 2 x0.size) (⟨#[42, 47]⟩ : ByteArray) n _ (by first | exact Env.below HENV.out (by repeat (first | exact HB.out | apply pw_below_drewN | apply below_drew1))) A5.out).mono ?_); rintro e w2 ⟨rfl, ⟨nd, rfl⟩⟩; refine ⟨_, rfl, ?_⟩))
              (try rw [Exit.noGoto_ret])
              go_ret
              exact ⟨rfl, (by repeat (first | exact HI.out | apply IsS59.drewN | apply IsS59.drew)), (by repeat (first | exact HB.out | apply pw_below_drewN | apply below_drew1)), (by repeat (first | exact HK.out | apply keep_drewN | apply keep_drew))⟩

end Go.Proofs.Ytbgndegdegfebaa.Q
