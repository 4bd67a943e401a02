-- PRINTED by print.py (a twelfth state) out of the translation. Not trusted: Lean checks it.
import Derived.Test.YtbgndegdegfebaaK0
namespace Go.Proofs.Ytbgndegdegfebaa.K
open Go.RowKit Go.Proofs.YtbgndegdegfebaaW.PrintWords Go.Proofs.YtbgndegdegfebaaW.PrintLast Go.Proofs.YtbgndegdegfebaaW.PrintMore
attribute [local go_sem] max2_int min2_int max_two min_two max_three min_three max_four min_four   -- for this text's walks alone
set_option linter.unusedVariables false
set_option linter.unusedSimpArgs false

-- EXT 56 kv_value making
/-! ### kv_value: function 56, by hand: a range over a string -/
def kv_value.okC (n : Nat) : Bool := 32 ≤ n && n ≤ 126
def kv_value.allB (a0 : ByteArray) : Bool := a0.data.toList.all (fun b => kv_value.okC b.toNat)
def kv_value.f (a0 : ByteArray) : Option (Bool) := some (kv_value.allB a0 && decide (a0.size ≤ 120))
theorem kv_value.split (n : Nat) : (kv_value.okC n = true ∧ (32 ≤ n ∧ n ≤ 126)) ∨ (kv_value.okC n = false ∧ (n < 32 ∨ 126 < n)) := by
  unfold kv_value.okC
  by_cases h1 : 32 ≤ n <;> by_cases h2 : n ≤ 126 <;> simp [h1, h2] <;> omega
theorem kv_value.bad (a0 : ByteArray) (pos : Nat) (hp : pos < a0.size) (h : kv_value.okC (a0[pos]'hp).toNat = false) : kv_value.allB a0 = false := by
  unfold kv_value.allB
  rw [Bool.eq_false_iff]
  intro h2
  have := List.all_eq_true.1 h2 (a0[pos]'hp) (by
    have : (a0[pos]'hp) = a0.data.toList[pos]'(by simpa using hp) := by simp; rfl
    rw [this]
    exact List.getElem_mem _)
  rw [h] at this
  cases this
theorem kv_value.all (a0 : ByteArray) (h : ∀ j (hj : j < a0.size), kv_value.okC (a0[j]'hj).toNat = true) : kv_value.allB a0 = true := by
  unfold kv_value.allB
  rw [List.all_eq_true]
  intro x hx
  obtain ⟨j, hj, rfl⟩ := List.getElem_of_mem hx
  have h1 : j < a0.size := by simpa using hj
  have := h j h1
  have e : (a0[j]'h1) = a0.data.toList[j] := by simp; rfl
  rw [e] at this
  exact this
set_option maxHeartbeats 4000000 in
set_option maxRecDepth 100000 in
theorem kv_value.calls (a0 : ByteArray) (r : Bool) (w : World) (h : kv_value.f a0 = some r) :
    Calls Try.prog 56 #[.string a0] w fun e w' => e = .returned (.bool r) ∧ Below w.heap.size w w' := by
  obtain rfl := Option.some.inj h
  clear h
  go_enter Try.func56, Try.ntmps56
  go_wp2
  go_loopw [] (fun w' => ∃ pos : Nat, w' = w.iter a0 pos ∧ Aside0 (∀ j (hj : j < a0.size), j < pos → kv_value.okC (a0[j]'hj).toNat = true)) (fun w' => a0.size - w'.iterPos w.heap.size)
  case atStart => exact ⟨0, rfl, ⟨fun j hj hlt => absurd hlt (Nat.not_lt_zero _)⟩⟩
  case round =>
    obtain ⟨pos, rfl, hall⟩ := hrel
    by_cases hp : pos < a0.size
    · by_cases hlo : (a0[pos]'hp).toNat < 128
      · have hd := decode_ascii a0 pos hp hlo
        have hnx : ∀ ty, (Instr.next (.pointer (some ⟨w.heap.size, 0, none⟩)) true ty).run Try.prog (w.iter a0 pos) = .ok (.tuple #[.bool true, .int .i64 pos, .int .i32 ((a0[pos]'hp).toNat : Nat)]) (w.iter a0 (pos + 1)) := fun ty => by
          have := run_next_any (P := Try.prog) w a0 pos ty hp
          rw [hd] at this
          exact this
        clear hd
        obtain ⟨n, hn⟩ : ∃ n, n = (a0[pos]'hp).toNat := ⟨_, rfl⟩
        rw [← hn] at hnx
        rcases kv_value.split n with ⟨hok, h3, h4⟩ | ⟨hok, h1⟩
        · have hnext : Aside0 (∀ j (hj : j < a0.size), j < pos + 1 → kv_value.okC (a0[j]'hj).toNat = true) := ⟨fun j hj hlt => by
            rcases (by omega : j < pos ∨ j = pos) with h' | rfl
            · exact hall.out j hj h'
            · rw [← hn]; exact hok⟩
          have hmz := Aside0.mk hp
          clear hn hok hall hlo hp
          go_wp2
          go_roundw
          case rel => exact ⟨_, rfl, hnext⟩
          case measure => have := hmz.out; simp; omega
        · have hbad := Aside0.mk (kv_value.bad a0 pos hp (by rw [← hn]; exact hok))
          clear hn hok hall hlo hp
          rcases h1 with h1 | h1
          all_goals
            go_wp2
            go_ret
            rw [hbad.out]
            exact ⟨rfl, (Below.refl _ _).alloc (Nat.le_refl _) _⟩
      · have hd := decode_high a0 pos hp (by omega)
        have hbad := Aside0.mk (kv_value.bad a0 pos hp (by
          rcases kv_value.split (a0[pos]'hp).toNat with ⟨_, h3⟩ | ⟨h3, _⟩
          · omega
          · exact h3))
        have hnx := fun ty => run_next_any (P := Try.prog) w a0 pos ty hp
        obtain ⟨⟨n, wd⟩, hnw⟩ : ∃ y, y = Utf8.decode a0 pos := ⟨_, rfl⟩
        rw [← hnw] at hd hnx
        have hd1 : 126 < n := by have := hd.1; simp only at this; omega
        clear hd hnw hall hlo hp
        go_wp2
        go_ret
        rw [hbad.out]
        exact ⟨rfl, (Below.refl _ _).alloc (Nat.le_refl _) _⟩
    · have hnx : ∀ ty, (Instr.next (.pointer (some ⟨w.heap.size, 0, none⟩)) true ty).run Try.prog (w.iter a0 pos) = _ := fun ty => run_next_end w a0 pos ty hp
      have hgood := Aside0.mk (kv_value.all a0 (fun j hj => hall.out j hj (by omega)))
      clear hall hp
      go_wp2
      all_goals
        go_ret
        rw [hgood.out]
        refine ⟨?_, (Below.refl _ _).alloc (Nat.le_refl _) _⟩
        have hc : decide ((a0.size : Int) ≤ 120) = decide (a0.size ≤ 120) := decide_eq_decide.2 (by omega)
        first | (simp [hc, *]; done) | (simp [hc]; done) | (simp [*]; done) | (simp [hc, *]; omega) | (simp [*]; omega)

end Go.Proofs.Ytbgndegdegfebaa.K
