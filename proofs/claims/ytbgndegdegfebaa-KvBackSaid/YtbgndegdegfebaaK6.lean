-- PRINTED by print.py (a twelfth state) out of the translation. Not trusted: Lean checks it.
import Derived.Test.YtbgndegdegfebaaK0
import Derived.Test.YtbgndegdegfebaaK5
namespace Go.Proofs.Ytbgndegdegfebaa.K
open Go.RowKit Go.Proofs.YtbgndegdegfebaaW.PrintWords Go.Proofs.YtbgndegdegfebaaW.PrintLast Go.Proofs.YtbgndegdegfebaaW.PrintMore
attribute [local go_sem] max2_int min2_int max_two min_two max_three min_three max_four min_four   -- for this text's walks alone
set_option linter.unusedVariables false
set_option linter.unusedSimpArgs false

-- EXT 22 kv_Print making rounds deps=47
/-! ### kv_Print: function 22, by hand, over strings.Builder -/
def kv_Print.one (x : S47) : List UInt8 := x.f0.data.toList ++ [61] ++ x.f1.data.toList ++ [10]
def kv_Print.all (l : List S47) : List UInt8 := (l.map kv_Print.one).flatten
def kv_Print.g (l0 : List S47) (t : Bool) : Option (ByteArray × Int) :=
  if t = true then (if (kv_Print.all l0).length ≤ 140737488355328 then (if 496 < (kv_Print.all l0).length then some (⟨#[]⟩, 7) else some (⟨(kv_Print.all l0).toArray⟩, 0)) else none) else some (⟨#[]⟩, 6)
def kv_Print.f (k : Nat) (l0 : List S47) : Option (ByteArray × Int) := (kv_right.f k l0).bind fun t => kv_Print.g l0 t
theorem kv_Print.mono : ∀ l0 k, LeO (kv_Print.f k l0) (kv_Print.f (k + 1) l0) := fun l0 k => LeO.bind (kv_right.mono _ _) (fun _ => LeO.refl _)
theorem kv_Print.snoc (l : List S47) (k : Nat) (h : k < l.length) : kv_Print.all (l.take (k + 1)) = kv_Print.all (l.take k) ++ kv_Print.one l[k] := by
  unfold kv_Print.all
  rw [List.take_succ_eq_append_getElem h, List.map_append, List.flatten_append]
  simp
theorem kv_Print.pre (l : List S47) (k : Nat) : (kv_Print.all (l.take k)).length ≤ (kv_Print.all l).length := by
  unfold kv_Print.all
  conv => rhs; rw [← List.take_append_drop k l]
  simp only [List.map_append, List.flatten_append, List.length_append]
  omega
theorem kv_Print.write (B b : Nat) (bs : List Value) (s : ByteArray) (w : World) (h : Lib.IsBuilder 75 5 B b bs w) (hlen : bs.length + s.size ≤ 140737488355328) (hBw : B ≤ w.heap.size) :
    Calls Try.prog 48 #[.pointer (some ⟨b, 0, none⟩), .string s] w fun e w' => e = .returned (.tuple #[.int .i64 s.size, .nilIface]) ∧ (Lib.BuilderAt 75 5 B b (.pointer (some ⟨b, 0, none⟩)) (bs ++ Lib.strCells s) w' ∧ Below B w w') :=
  Any.Builder_WriteString { Try.lays156 with } Try.Builder_Extra_156 B b bs s w h hlen hBw
theorem kv_Print.isA {T e : TypeId} {B b : Nat} {p : Value} {bs : List Value} {w : World} (h : Lib.BuilderAt T e B b p bs w) (o : Obj) : Lib.BuilderAt T e B b p bs (w.alloc o) := by
  obtain ⟨h1, v, h2, h3, h4⟩ := h
  have hlt : b < w.heap.size := (Array.getElem?_eq_some_iff.1 h2).1
  exact ⟨h1, v, by rw [heap_alloc_old w o hlt]; exact h2, h3.alloc o, h4⟩
theorem kv_Print.isB {T e : TypeId} {B b : Nat} {bs : List Value} {w : World} (h : Lib.IsBuilder T e B b bs w) (o : Obj) : Lib.IsBuilder T e B b bs (w.alloc o) := by
  rcases h with h | h
  · exact .inl (kv_Print.isA h o)
  · exact .inr (kv_Print.isA h o)
theorem kv_Print.str (x : S47) : (((x.f0 ++ (⟨#[61]⟩ : ByteArray)) ++ x.f1) ++ (⟨#[10]⟩ : ByteArray)).data.toList = kv_Print.one x := by
  simp [kv_Print.one, ByteArray.data_append]
theorem kv_Print.len (x : S47) : (kv_Print.one x).length = x.f0.size + 1 + x.f1.size + 1 := by
  simp [kv_Print.one]
  omega
theorem kv_Print.at_ {w : World} {A : Option Addr} {l : List S47} (h : Kd.C k47 w A l.length l) (k : Nat) (hk : k < l.length) : ∃ ad, A = some ad ∧ w.cell? (ad.add (k * 2)) = some (.string l[k].f0) ∧ w.cell? ⟨(ad.add (k * 2)).block, (ad.add (k * 2)).off + 1, none⟩ = some (.string l[k].f1) := by
  obtain ⟨ad, e, h1, h2⟩ := at_T47 h k (by omega) (by omega)
  have hr : rd_T47 l (k : Int) = l[k] := by simp [rd_T47, List.getD_eq_getElem?_getD, hk]
  rw [Int.toNat_natCast, hr] at h1 h2
  exact ⟨ad, e, h1, h2⟩
set_option maxHeartbeats 4000000 in
set_option maxRecDepth 100000 in
theorem kv_Print.calls (k : Nat) (A0 : Option Addr) (c0 : Nat) (l0 : List S47) (r1 : ByteArray) (r2 : Int) (w : World) (hr0 : Kd.C k47 w A0 l0.length l0) (hc0 : l0.length ≤ c0) (h : kv_Print.f k l0 = some (r1, r2)) :
    Calls Try.prog 22 #[.slice A0 l0.length c0] w fun e w' => e = .returned (.tuple #[.string r1, .int .i64 r2]) ∧ Below w.heap.size w w' := by
  unfold kv_Print.f at h
  obtain ⟨t, ht, h⟩ := Option.bind_eq_some_iff.1 h
  have hcall := kv_right.calls k A0 c0 l0 t w hr0 hc0 ht
  have HC := Aside0.mk hcall
  clear hcall ht hc0
  unfold kv_Print.g at h
  cases t with
  | false =>
    cases h
    clear hr0
    go_enter Try.func22, Try.ntmps22
    go_wp2_with fail
    refine HC.out.mono ?_
    rintro e w' ⟨rfl, hb⟩
    have HB := Aside0.mk hb
    clear hb
    go_wp2_with fail
    go_ret2
    exact ⟨rfl, HB.out⟩
  | true =>
    rw [if_pos rfl] at h
    by_cases hs : (kv_Print.all l0).length ≤ 140737488355328
    · rw [if_pos hs] at h
      have HS := Aside0.mk hs
      have HR := Aside0.mk hr0
      have hbig := hr0.2.1
      have HH := Aside0.mk h
      clear hr0 hs h
      go_enter Try.func22, Try.ntmps22
      go_wp2_with fail
      refine HC.out.mono ?_
      rintro e w1 ⟨rfl, hb⟩
      have HB1 := Aside0.mk hb
      clear hb HC
      go_wp2_with fail
      obtain ⟨g, hg⟩ : ∃ g, g = w1.heap.size := ⟨_, rfl⟩
      have HG := Aside0.mk hg
      rw [← hg]
      clear hg
      go_loopw [12] (fun i wr => ∃ k : Nat, k ≤ l0.length ∧ i = .int .i64 k ∧ Aside0 (Lib.IsBuilder 75 5 w.heap.size g (Lib.byteCells (kv_Print.all (l0.take k))) wr) ∧ Aside0 (Below w.heap.size w wr)) (fun i _ => l0.length - (intOf i).toNat)
      case atStart => exact ⟨0, by omega, rfl, ⟨.inl ⟨by have := HB1.out.size; have := HG.out; omega, _, by rw [HG.out]; exact heap_alloc_new w1 _, own_nil _ _ _ _, by simp [Value.ownBlock]⟩⟩, ⟨below_alloc HB1.out _⟩⟩
      case round =>
        obtain ⟨k, hk, rfl, HI, HB⟩ := hrel
        by_cases hlt : k < l0.length
        · obtain ⟨ad, e0, hx, hx2⟩ := kv_Print.at_ (Kd.C_below HR.out HB.out) k hlt
          subst e0
          have hsum := kv_Print.pre l0 (k + 1)
          rw [kv_Print.snoc l0 k hlt, List.length_append, kv_Print.len] at hsum
          have hs2 := HS.out
          have hc1 : (9223372036854775807 < l0[k].f0.size + 1) = False := eq_false (by omega)
          have hc2 : (9223372036854775807 < l0[k].f0.size + 1 + l0[k].f1.size) = False := eq_false (by omega)
          have hc3 : (9223372036854775807 < l0[k].f0.size + 1 + l0[k].f1.size + 1) = False := eq_false (by omega)
          have HSUM := Aside0.mk hsum
          clear hsum hs2
          go_wp2_with fail
          refine (kv_Print.write _ _ (Lib.byteCells (kv_Print.all (l0.take k))) _ _ (kv_Print.isB HI.out _) ?_ (below_size (below_alloc HB.out _))).mono ?_
          · have h2 := HS.out
            have h3 := HSUM.out
            rw [Lib.byteCells_length, ← data_length, kv_Print.str, kv_Print.len]
            omega
          rintro e w' ⟨rfl, h2, h3⟩
          have H2 := Aside0.mk h2
          have H3 := Aside0.mk h3
          clear h2 h3
          go_wp2_with fail
          go_roundw
          case rel =>
            refine ⟨k + 1, by omega, by go_num, ⟨.inr ?_⟩, ⟨(below_alloc HB.out _).trans H3.out⟩⟩
            rw [kv_Print.snoc l0 k hlt, Lib.byteCells_append, ← kv_Print.str]
            exact H2.out
          case measure => simp [intOf]; omega
        · obtain rfl : k = l0.length := by omega
          have hI := HI.out
          rw [List.take_length] at hI
          have HI2 := Aside0.mk hI
          clear hI HI
          have h := HH.out
          by_cases h496 : 496 < (kv_Print.all l0).length
          · rw [if_pos h496] at h
            cases h
            have h4 : (496 : Int) < ((Lib.byteCells (kv_Print.all l0)).length : Int) := by rw [Lib.byteCells_length]; omega
            clear h496
            go_wp2_with fail
            refine (Try.Builder_Len _ _ _ _ HI2.out).mono ?_
            rintro e w' ⟨rfl, rfl⟩
            go_wp2_with fail
            go_ret2
            exact ⟨rfl, HB.out⟩
          · rw [if_neg h496] at h
            cases h
            have h4 : ((Lib.byteCells (kv_Print.all l0)).length : Int) ≤ 496 := by rw [Lib.byteCells_length]; omega
            clear h496
            go_wp2_with fail
            refine (Try.Builder_Len _ _ _ _ HI2.out).mono ?_
            rintro e w' ⟨rfl, rfl⟩
            go_wp2_with fail
            refine (Try.Builder_String_any _ _ (kv_Print.all l0) _ HI2.out HB.out.size).mono ?_
            rintro e w' ⟨rfl, h2⟩
            have H2 := Aside0.mk h2
            clear h2
            go_wp2_with fail
            go_ret2
            exact ⟨rfl, HB.out.trans H2.out⟩
    · rw [if_neg hs] at h
      cases h

end Go.Proofs.Ytbgndegdegfebaa.K
