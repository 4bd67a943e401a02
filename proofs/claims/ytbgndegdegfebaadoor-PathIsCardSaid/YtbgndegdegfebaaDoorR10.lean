-- PRINTED by print.py (a twelfth state) out of the translation. Not trusted: Lean checks it.
import Derived.Test.YtbgndegdegfebaaDoorR0
namespace Go.Proofs.YtbgndegdegfebaaDoor.R
open Go.RowKit Go.Proofs.YtbgndegdegfebaaDoorW.PrintWords Go.Proofs.YtbgndegdegfebaaDoorW.PrintLast Go.Proofs.YtbgndegdegfebaaDoorW.PrintMore
attribute [local go_sem] max2_int min2_int max_two min_two max_three min_three max_four min_four   -- for this text's walks alone
set_option linter.unusedVariables false
set_option linter.unusedSimpArgs false

-- EXT 29 num_FromBig making
/-! ### num_FromBig: function 29, by hand -/
def num_FromBig.f (a0 : ByteArray) : Option (Int × Bool) :=
  if a0.size < 4 then some (0, false) else some (bt a0 0 * 16777216 + bt a0 1 * 65536 + bt a0 2 * 256 + bt a0 3, true)
def num_FromBig.v (a0 : ByteArray) : Nat → Int
  | 0 => 0
  | k + 1 => num_FromBig.v a0 k * 256 + bt a0 k
theorem num_FromBig.v_four (a0 : ByteArray) : num_FromBig.v a0 4 = bt a0 0 * 16777216 + bt a0 1 * 65536 + bt a0 2 * 256 + bt a0 3 := by
  simp only [num_FromBig.v, Int.natCast_zero]
  show ((((0 * 256 + bt a0 0) * 256 + bt a0 1) * 256 + bt a0 2) * 256 + bt a0 3) = _
  omega
theorem num_FromBig.v_step (a0 : ByteArray) (k : Nat) (hk : k < 4) : Value.int .i64 (bits .or .i64 (wrap64 (num_FromBig.v a0 k * 256)) (wrap64 (bt a0 k))) = .int .i64 (num_FromBig.v a0 (k + 1)) := by
  have hb := bt_range a0 k
  have hr : 0 ≤ num_FromBig.v a0 k ∧ num_FromBig.v a0 k ≤ 16777215 := by
    have h0 := bt_range a0 0
    have h1 := bt_range a0 1
    have h2 := bt_range a0 2
    rcases (by omega : k = 0 ∨ k = 1 ∨ k = 2 ∨ k = 3) with rfl | rfl | rfl | rfl <;> simp [num_FromBig.v] <;> omega
  have e1 : wrap64 (num_FromBig.v a0 k * 256) = num_FromBig.v a0 k * 256 := by unfold wrap64; omega
  have e2 : wrap64 (bt a0 k) = bt a0 k := by unfold wrap64; omega
  rw [e1, e2, bits_join .i64 63 (by decide) (fun n h0 h1 => by rw [IntKind.wrap_i64]; omega) 8 _ _ (by omega) (by omega) (by omega) hb.1 (by omega) (by omega)]
  rfl
set_option maxHeartbeats 4000000 in
set_option maxRecDepth 100000 in
theorem num_FromBig.calls (a0 : ByteArray) (r1 : Int) (r2 : Bool) (w : World) (h : num_FromBig.f a0 = some (r1, r2)) :
    Calls Tryd.prog 29 #[.string a0] w fun e w' => e = .returned (.tuple #[.int .i64 r1, .bool r2]) ∧ Below w.heap.size w w' := by
  unfold num_FromBig.f at h
  by_cases hs : a0.size < 4
  · rw [if_pos hs] at h
    cases h
    go_enter Tryd.func29, Tryd.ntmps29
    go_wp2
    go_ret2
    exact ⟨rfl, Below.refl _ _⟩
  · rw [if_neg hs] at h
    cases h
    have hs' : ¬ (a0.size : Int) < 4 := by omega
    have hx : (a0.extract 0 4).size = 4 := by simp; omega
    have hconv : ∀ W : World, (convert 9 49 (.string (a0.extract 0 4))).run Tryd.prog W = .ok (.slice (some ⟨W.heap.size, 0, none⟩) 4 (grownCap W 4 0 5)) (Lib.bytesWorld W 5 (a0.extract 0 4)) := by
      intro W
      have := Lib.run_convert_string_bytes W 9 49 5 (a0.extract 0 4) Tryd.underlying9 Tryd.underlying49 Tryd.underlying5
      rwa [hx] at this
    clear hs
    go_enter Tryd.func29, Tryd.ntmps29
    go_wp2
    have hb : Below w.heap.size w (Lib.bytesWorld w 5 (a0.extract 0 4)) := bytes_below (Below.refl _ _) (Nat.le_refl _) 5 _
    have hcell : ∀ j, j < 4 → (Lib.bytesWorld w 5 (a0.extract 0 4)).cell? ⟨w.heap.size, j, none⟩ = some (.int .u8 (bt a0 j)) := by
      intro j hj
      rw [Lib.bytesWorld_cell w 5 _ j (by omega)]
      have h2 : j < a0.size := by omega
      simp [bt, h2, hj, List.getD, ByteArray.getElem_eq_getElem_data]
    generalize hW : Lib.bytesWorld w 5 (a0.extract 0 4) = W at *
    clear hW hconv
    go_loopw [4, 14] (fun n i w' => ∃ k : Nat, k ≤ 4 ∧ i = .int .i64 k ∧ n = .int .i64 (num_FromBig.v a0 k) ∧ Aside0 (Drawn0 W w')) (fun _ i _ => 4 - (intOf i).toNat)
    case atStart => exact ⟨0, by omega, rfl, rfl, ⟨Drawn0.refl _⟩⟩
    case round =>
      obtain ⟨k, hk, rfl, rfl, ⟨n, rfl⟩⟩ := hrel
      by_cases hk4 : k < 4
      · have hc := hcell k hk4
        go_wp2
        go_roundw
        case rel => exact ⟨k + 1, by omega, by go_num, by
          rw [num_FromBig.v_step a0 k hk4], ⟨⟨_, rfl⟩⟩⟩
        case measure => simp [intOf]; omega
      · obtain rfl : k = 4 := by omega
        go_wp2
        go_ret2
        refine ⟨?_, hb.trans ((Drawn0.below ⟨⟨n, rfl⟩⟩).mono hb.size)⟩
        rw [← num_FromBig.v_four]
        rfl

end Go.Proofs.YtbgndegdegfebaaDoor.R
