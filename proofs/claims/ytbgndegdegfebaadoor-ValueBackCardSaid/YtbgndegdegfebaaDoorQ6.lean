-- PRINTED by print.py (a twelfth state) out of the translation. Not trusted: Lean checks it.
import Derived.Test.YtbgndegdegfebaaDoorQ0
namespace Go.Proofs.YtbgndegdegfebaaDoor.Q
open Go.RowKit Go.Proofs.YtbgndegdegfebaaDoorW.PrintWords Go.Proofs.YtbgndegdegfebaaDoorW.PrintLast Go.Proofs.YtbgndegdegfebaaDoorW.PrintMore
attribute [local go_sem] max2_int min2_int max_two min_two max_three min_three max_four min_four   -- for this text's walks alone
set_option linter.unusedVariables false
set_option linter.unusedSimpArgs false

-- EXT 20 value_Texts making env
/-! ### value_Texts: function 20, by hand -/
def value_Texts.one (s : ByteArray) : List UInt8 := (Lib.cut s.data.toList [0]).1 ++ [0]
def value_Texts.all (l : List ByteArray) : List UInt8 := (l.map value_Texts.one).flatten
def value_Texts.f (l0 : List ByteArray) : Option (ByteArray) :=
  if l0.length ≤ 140737488355328 ∧ (∀ s ∈ l0, s.size < 4294967280) ∧ (value_Texts.all l0).length ≤ 140737488355328 then some ⟨(value_Texts.all l0).toArray⟩ else none
theorem value_Texts.snoc (l : List ByteArray) (k : Nat) (h : k < l.length) : value_Texts.all (l.take (k + 1)) = value_Texts.all (l.take k) ++ value_Texts.one l[k] := by
  unfold value_Texts.all
  rw [List.take_succ_eq_append_getElem h, List.map_append, List.flatten_append]
  simp
theorem value_Texts.pre (l : List ByteArray) (k : Nat) : (value_Texts.all (l.take k)).length ≤ (value_Texts.all l).length := by
  unfold value_Texts.all
  conv => rhs; rw [← List.take_append_drop k l]
  simp only [List.map_append, List.flatten_append, List.length_append]
  omega
theorem value_Texts.cells (w : World) (A : Option Addr) (l : List ByteArray) (h : Kd.C Kd.string w A l.length l) (k : Nat) (hk : k < l.length) : ∃ ad, A = some ad ∧ w.cell? (ad.add k) = some (.string l[k]) := by
  obtain ⟨ad, e, hx⟩ := Kd.at_string h k (by omega) (by omega)
  refine ⟨ad, e, ?_⟩
  rw [Int.toNat_natCast] at hx
  rw [hx]
  simp [rdOf, List.getD_eq_getElem?_getD, hk]
theorem value_Texts.write (B b : Nat) (bs : List Value) (s : ByteArray) (w : World) (h : Lib.IsBuilder 51 5 B b bs w) (hlen : bs.length + s.size ≤ 140737488355328) (hBw : B ≤ w.heap.size) :
    Calls Tryd.prog 37 #[.pointer (some ⟨b, 0, none⟩), .string s] w fun e w' => e = .returned (.tuple #[.int .i64 s.size, .nilIface]) ∧ (Lib.BuilderAt 51 5 B b (.pointer (some ⟨b, 0, none⟩)) (bs ++ Lib.strCells s) w' ∧ Below B w w') :=
  Any.Builder_WriteString { Tryd.lays156 with } Tryd.Builder_Extra_156 B b bs s w h hlen hBw
theorem value_Texts.cut_len (s : List UInt8) : (Lib.cut s [0]).1.length ≤ s.length := by
  unfold Lib.cut
  split
  · simp
    omega
  · simp
theorem value_Texts.end_ (x : List UInt8) : ((⟨x.toArray⟩ : ByteArray) ++ (⟨#[0]⟩ : ByteArray)).size = x.length + 1 := by
  rw [ByteArray.size_append]
  simp [ByteArray.size]
theorem value_Texts.isB {T e : TypeId} {B b : Nat} {bs : List Value} {w : World} (h : Lib.IsBuilder T e B b bs w) (n : Nat) : Lib.IsBuilder T e B b bs (w.drewN n) := by
  rcases h with h | h
  · exact .inl h
  · exact .inr h
set_option maxHeartbeats 4000000 in
set_option maxRecDepth 100000 in
theorem value_Texts.calls (A0 : Option Addr) (c0 : Nat) (l0 : List ByteArray) (r : ByteArray) (w : World) (hr0 : Kd.C Kd.string w A0 l0.length l0) (hc0 : l0.length ≤ c0) (HE : Env w) (h : value_Texts.f l0 = some r) :
    Calls Tryd.prog 20 #[.slice A0 l0.length c0] w fun e w' => e = .returned (.string r) ∧ Below w.heap.size w w' := by
  unfold value_Texts.f at h
  by_cases hs : l0.length ≤ 140737488355328 ∧ (∀ s ∈ l0, s.size < 4294967280) ∧ (value_Texts.all l0).length ≤ 140737488355328
  · rw [if_pos hs] at h
    cases h
    obtain ⟨hN0, hs1, hs2⟩ := hs
    have HS1 := Aside0.mk hs1
    have HS2 := Aside0.mk hs2
    have HR := Aside0.mk hr0
    have HEN := Aside0.mk HE
    clear hs1 hs2 hr0 HE hc0
    go_enter Tryd.func20, Tryd.ntmps20
    go_wp2
    go_loopw [11] (fun i wr => ∃ k : Nat, k ≤ l0.length ∧ i = .int .i64 k ∧ Aside0 (Lib.IsBuilder 51 5 w.heap.size w.heap.size (Lib.byteCells (value_Texts.all (l0.take k))) wr) ∧ Aside0 (Below w.heap.size w wr)) (fun i _ => l0.length - (intOf i).toNat)
    case atStart => exact ⟨0, by omega, rfl, ⟨.inl ⟨Nat.le_refl _, _, heap_alloc_new w _, own_nil _ _ _ _, by simp [Value.ownBlock]⟩⟩, ⟨below_alloc (Below.refl _ _) _⟩⟩
    case round =>
      obtain ⟨k, hk, rfl, HI, HB⟩ := hrel
      by_cases hlt : k < l0.length
      · obtain ⟨ad, e0, hx⟩ := value_Texts.cells wr A0 l0 (Kd.C_below HR.out HB.out) k hlt
        subst e0
        have hsz := HS1.out _ (List.getElem_mem hlt)
        obtain ⟨m, hm⟩ := HEN.out.below HB.out
        have HM := Aside0.mk hm
        clear hm
        have hcl : ¬ 9223372036854775807 < (Lib.cut l0[k].data.toList [0]).1.length + 1 := by
          have := value_Texts.cut_len l0[k].data.toList
          rw [data_length] at this
          omega
        go_wp2_with fail
        refine (Tryd.strings_Cut _ _ m _ (by omega) HM.out).mono ?_
        rintro e w' ⟨rfl, ⟨nd, rfl⟩⟩
        go_wp2_with fail
        refine (value_Texts.write _ _ (Lib.byteCells (value_Texts.all (l0.take k))) _ _ (value_Texts.isB HI.out nd) ?_ HB.out.size).mono ?_
        · have h1 := value_Texts.pre l0 (k + 1)
          rw [value_Texts.snoc l0 k hlt] at h1
          have h2 := HS2.out
          rw [value_Texts.end_]
          simp only [List.length_append, value_Texts.one, Lib.byteCells_length, List.length_singleton] at h1 ⊢
          omega
        rintro e w' ⟨rfl, h2, h3⟩
        have H2 := Aside0.mk h2
        have H3 := Aside0.mk h3
        clear h2 h3
        go_wp2_with fail
        go_roundw
        case rel =>
          refine ⟨k + 1, by omega, by go_num, ⟨.inr ?_⟩, ⟨(pw_below_drewN HB.out nd).trans H3.out⟩⟩
          rw [value_Texts.snoc l0 k hlt, Lib.byteCells_append]
          exact H2.out
        case measure => simp [intOf]; omega
      · obtain rfl : k = l0.length := by omega
        go_wp2_with fail
        refine (Tryd.Builder_String_any _ _ (value_Texts.all l0) _ ?_ HB.out.size).mono ?_
        · have := HI.out
          rwa [List.take_length] at this
        rintro e w' ⟨rfl, h2⟩
        have H2 := Aside0.mk h2
        clear h2
        go_wp2_with fail
        go_ret
        exact ⟨rfl, HB.out.trans H2.out⟩
  · rw [if_neg hs] at h
    cases h

end Go.Proofs.YtbgndegdegfebaaDoor.Q
