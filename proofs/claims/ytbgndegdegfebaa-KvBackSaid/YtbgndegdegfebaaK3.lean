-- PRINTED by print.py (a twelfth state) out of the translation. Not trusted: Lean checks it.
import Derived.Test.YtbgndegdegfebaaK0
namespace Go.Proofs.Ytbgndegdegfebaa.K
open Go.RowKit Go.Proofs.YtbgndegdegfebaaW.PrintWords Go.Proofs.YtbgndegdegfebaaW.PrintLast Go.Proofs.YtbgndegdegfebaaW.PrintMore
attribute [local go_sem] max2_int min2_int max_two min_two max_three min_three max_four min_four   -- for this text's walks alone
set_option linter.unusedVariables false
set_option linter.unusedSimpArgs false

-- EXT 55 kv_key making
/-! ### kv_key: function 55, by hand: a range over a string -/
def kv_key.okC (n : Nat) : Bool := (97 ≤ n && n ≤ 122) || (48 ≤ n && n ≤ 57) || n == 46
def kv_key.allB (a0 : ByteArray) : Bool := a0.data.toList.all (fun b => kv_key.okC b.toNat)
def kv_key.f (a0 : ByteArray) : Option (Bool) := some (kv_key.allB a0 && (!a0.toList.isEmpty && decide (a0.size ≤ 31)))
theorem kv_key.split (n : Nat) : (kv_key.okC n = true ∧ ((97 ≤ n ∧ n ≤ 122) ∨ (48 ≤ n ∧ n ≤ 57) ∨ n = 46)) ∨ (kv_key.okC n = false ∧ (n < 97 ∨ 122 < n) ∧ (n < 48 ∨ 57 < n) ∧ n ≠ 46) := by
  unfold kv_key.okC
  by_cases h1 : 97 ≤ n <;> by_cases h2 : n ≤ 122 <;> by_cases h3 : 48 ≤ n <;> by_cases h4 : n ≤ 57 <;> by_cases h5 : n = 46 <;> simp [h1, h2, h3, h4, h5] <;> omega
theorem kv_key.bad (a0 : ByteArray) (pos : Nat) (hp : pos < a0.size) (h : kv_key.okC (a0[pos]'hp).toNat = false) : kv_key.allB a0 = false := by
  unfold kv_key.allB
  rw [Bool.eq_false_iff]
  intro h2
  have := List.all_eq_true.1 h2 (a0[pos]'hp) (by
    have : (a0[pos]'hp) = a0.data.toList[pos]'(by simpa using hp) := by simp; rfl
    rw [this]
    exact List.getElem_mem _)
  rw [h] at this
  cases this
theorem kv_key.all (a0 : ByteArray) (h : ∀ j (hj : j < a0.size), kv_key.okC (a0[j]'hj).toNat = true) : kv_key.allB a0 = true := by
  unfold kv_key.allB
  rw [List.all_eq_true]
  intro x hx
  obtain ⟨j, hj, rfl⟩ := List.getElem_of_mem hx
  have h1 : j < a0.size := by simpa using hj
  have := h j h1
  have e : (a0[j]'h1) = a0.data.toList[j] := by simp; rfl
  rw [e] at this
  exact this
set_option maxHeartbeats 4000000 in
set_option maxRecDepth 100000 in
theorem kv_key.calls (a0 : ByteArray) (r : Bool) (w : World) (h : kv_key.f a0 = some r) :
    Calls Try.prog 55 #[.string a0] w fun e w' => e = .returned (.bool r) ∧ Below w.heap.size w w' := by
  obtain rfl := Option.some.inj h
  clear h
  go_enter Try.func55, Try.ntmps55
  go_wp2
  go_loopw [] (fun w' => ∃ pos : Nat, w' = w.iter a0 pos ∧ Aside0 (∀ j (hj : j < a0.size), j < pos → kv_key.okC (a0[j]'hj).toNat = true)) (fun w' => a0.size - w'.iterPos w.heap.size)
  case atStart => exact ⟨0, rfl, ⟨fun j hj hlt => absurd hlt (Nat.not_lt_zero _)⟩⟩
  case round =>
    obtain ⟨pos, rfl, hall⟩ := hrel
    by_cases hp : pos < a0.size
    · by_cases hlo : (a0[pos]'hp).toNat < 128
      · have hd := decode_ascii a0 pos hp hlo
        have hnx : ∀ ty, (Instr.next (.pointer (some ⟨w.heap.size, 0, none⟩)) true ty).run Try.prog (w.iter a0 pos) = .ok (.tuple #[.bool true, .int .i64 pos, .int .i32 ((a0[pos]'hp).toNat : Nat)]) (w.iter a0 (pos + 1)) := fun ty => by
          have := run_next_any (P := Try.prog) w a0 pos ty hp
          rw [hd] at this
          exact this
        clear hd
        obtain ⟨n, hn⟩ : ∃ n, n = (a0[pos]'hp).toNat := ⟨_, rfl⟩
        rw [← hn] at hnx
        rcases kv_key.split n with ⟨hok, h3⟩ | ⟨hok, h1, h2, h5⟩
        · have hnext : Aside0 (∀ j (hj : j < a0.size), j < pos + 1 → kv_key.okC (a0[j]'hj).toNat = true) := ⟨fun j hj hlt => by
            rcases (by omega : j < pos ∨ j = pos) with h' | rfl
            · exact hall.out j hj h'
            · rw [← hn]; exact hok⟩
          have hmz := Aside0.mk hp
          clear hn hok hall hlo hp
          rcases h3 with ⟨h3, h4⟩ | ⟨h3, h4⟩ | h3
          · go_wp2
            go_roundw
            case rel => exact ⟨_, rfl, hnext⟩
            case measure => have := hmz.out; simp; omega
          · have h5 : (n : Int) < 97 := by omega
            go_wp2
            go_roundw
            case rel => exact ⟨_, rfl, hnext⟩
            case measure => have := hmz.out; simp; omega
          · subst h3
            go_wp2
            go_roundw
            case rel => exact ⟨_, rfl, hnext⟩
            case measure => have := hmz.out; simp; omega
        · have hbad := Aside0.mk (kv_key.bad a0 pos hp (by rw [← hn]; exact hok))
          clear hn hok hall hlo hp
          have h5a : ((n : Int) == 46) = false := beq_eq_false_iff_ne.2 (by omega)
          have h5b : ((n : Int) != 46) = true := bne_iff_ne.2 (by omega)
          clear h5
          rcases h1 with h1 | h1 <;> rcases h2 with h2 | h2
          all_goals
            first
            | omega
            | (go_wp2
               go_ret
               rw [hbad.out]
               exact ⟨rfl, (Below.refl _ _).alloc (Nat.le_refl _) _⟩)
      · have hd := decode_high a0 pos hp (by omega)
        have hbad := Aside0.mk (kv_key.bad a0 pos hp (by
          rcases kv_key.split (a0[pos]'hp).toNat with ⟨_, h3⟩ | ⟨h3, _⟩
          · omega
          · exact h3))
        have hnx := fun ty => run_next_any (P := Try.prog) w a0 pos ty hp
        obtain ⟨⟨n, wd⟩, hnw⟩ : ∃ y, y = Utf8.decode a0 pos := ⟨_, rfl⟩
        rw [← hnw] at hd hnx
        have hd1 : 122 < n := by have := hd.1; simp only at this; omega
        clear hd hnw hall hlo hp
        have h2 : ((n : Int) == 46) = false := beq_eq_false_iff_ne.2 (by omega)
        have h3 : ((n : Int) != 46) = true := bne_iff_ne.2 (by omega)
        go_wp2
        go_ret
        rw [hbad.out]
        exact ⟨rfl, (Below.refl _ _).alloc (Nat.le_refl _) _⟩
    · have hnx : ∀ ty, (Instr.next (.pointer (some ⟨w.heap.size, 0, none⟩)) true ty).run Try.prog (w.iter a0 pos) = _ := fun ty => run_next_end w a0 pos ty hp
      have hgood := Aside0.mk (kv_key.all a0 (fun j hj => hall.out j hj (by omega)))
      clear hall hp
      go_wp2
      all_goals
        go_ret
        rw [hgood.out]
        refine ⟨?_, (Below.refl _ _).alloc (Nat.le_refl _) _⟩
        have hc : decide ((a0.size : Int) ≤ 31) = decide (a0.size ≤ 31) := decide_eq_decide.2 (by omega)
        first | (simp [hc, *]; done) | (simp [hc]; done) | (simp [*]; done) | (simp [hc, *]; omega) | (simp [*]; omega)

end Go.Proofs.Ytbgndegdegfebaa.K
