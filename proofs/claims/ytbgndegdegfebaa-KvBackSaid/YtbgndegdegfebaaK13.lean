-- PRINTED by print.py (a twelfth state) out of the translation. Not trusted: Lean checks it.
import Derived.Test.YtbgndegdegfebaaK0
import Derived.Test.YtbgndegdegfebaaK9
import Derived.Test.YtbgndegdegfebaaK11
import Derived.Test.YtbgndegdegfebaaK12
namespace Go.Proofs.Ytbgndegdegfebaa.K
open Go.RowKit Go.Proofs.YtbgndegdegfebaaW.PrintWords Go.Proofs.YtbgndegdegfebaaW.PrintLast Go.Proofs.YtbgndegdegfebaaW.PrintMore
attribute [local go_sem] max2_int min2_int max_two min_two max_three min_three max_four min_four   -- for this text's walks alone
set_option linter.unusedVariables false
set_option linter.unusedSimpArgs false

-- EXT 34 kv_Drop making deps=26,32,58
/-! ### kv_Drop: function 34, by hand, with slices.DeleteFunc at pairs -/
def kv_Drop.has (keys : List ByteArray) (x : S47) : Bool := decide (0 ≤ Lib.idxOfS keys x.f0)
def kv_Drop.keep (keys : List ByteArray) (l : List S47) : List S47 := l.filter (fun x => !kv_Drop.has keys x)
def kv_Drop.f (l0 : List S47) (l1 : List ByteArray) : Option (List S47) := if l0.length * 32 ≤ 140737488355328 then some (kv_Drop.keep l1 l0) else none
theorem kv_Drop.strs {w : World} {A : Option Addr} {l : List ByteArray} (h : Kd.C Kd.string w A l.length l) (hp : 0 < l.length) : ∃ b o, A = some ⟨b, o, none⟩ ∧ ∀ j, j < l.length → w.cell? ⟨b, o + j, none⟩ = some (.string (l.getD j ByteArray.empty)) := by
  obtain ⟨ad, e0, hx⟩ := Kd.at_string h (0 : Nat) (by omega) (by omega)
  subst e0
  obtain ⟨b, o, sp⟩ := ad
  have hsp : sp = none := by
    cases sp with
    | none => rfl
    | some q =>
      exfalso
      simp only [Int.toNat_natCast, Addr.add, if_true] at hx
      unfold World.cell? at hx
      split at hx <;> simp at hx
  subst hsp
  refine ⟨b, o, rfl, fun j hj => ?_⟩
  obtain ⟨ad, e1, hx1⟩ := Kd.at_string h (j : Nat) (by omega) (by omega)
  cases e1
  have ha : (⟨b, o, none⟩ : Addr).add j = ⟨b, o + j, none⟩ := by unfold Addr.add; split <;> simp_all
  rw [Int.toNat_natCast, ha] at hx1
  exact hx1
set_option maxRecDepth 100000 in
theorem kv_Drop.contains64 (A : Option Addr) (c : Nat) (keys : List ByteArray) (x : ByteArray) (W : World) (hr : Kd.C Kd.string W A keys.length keys) :
    Calls Try.prog 64 #[.slice A keys.length c, .string x] W fun e w' => e = .returned (.bool (decide (0 ≤ Lib.idxOfS keys x))) ∧ w' = W := by
  have hcon : Calls Try.prog 84 #[.slice A keys.length c, .string x] W fun e w' => e = .returned (.int .i64 (Lib.idxOfS keys x)) ∧ w' = W := by
    rcases Nat.eq_zero_or_pos keys.length with h0 | h0
    · have e : keys = [] := List.length_eq_zero_iff.1 h0
      subst e
      exact Try.slices_Index_string_empty A c x W
    · obtain ⟨b, o, rfl, hc⟩ := kv_Drop.strs hr h0
      have := Try.slices_Index_string b o keys.length c keys x W (Nat.le_refl _) hr.2.1 hc
      rw [List.take_length] at this
      exact this
  have HCON := Aside0.mk hcon
  clear hcon hr
  obtain ⟨q, hq⟩ : ∃ q, q = Lib.idxOfS keys x := ⟨_, rfl⟩
  rw [← hq] at HCON ⊢
  clear hq
  by_cases h0 : 0 ≤ q
  · go_enter Try.func64, Try.ntmps64
    go_wp2_with fail
    refine HCON.out.mono ?_
    rintro e w' ⟨rfl, rfl⟩
    go_wp2_with fail
    go_ret
    exact ⟨by simp [h0], rfl⟩
  · go_enter Try.func64, Try.ntmps64
    go_wp2_with fail
    refine HCON.out.mono ?_
    rintro e w' ⟨rfl, rfl⟩
    go_wp2_with fail
    go_ret
    exact ⟨by simp [h0], rfl⟩
set_option maxRecDepth 100000 in
theorem kv_Drop.pred63 (B : Nat) (AK : Option Addr) (ck : Nat) (keys : List ByteArray) (x : S47) (W : World) (hB : W.cell? ⟨B, 0, none⟩ = some (.slice AK keys.length ck)) (hBW : B < W.heap.size) (hk : Kd.C Kd.string W AK keys.length keys) :
    Calls Try.prog 63 #[.agg #[.string x.f0, .string x.f1], .pointer (some ⟨B, 0, none⟩)] W fun e w' => e = .returned (.bool (kv_Drop.has keys x)) ∧ Below W.heap.size W w' := by
  have HK := Aside0.mk (kv_Drop.contains64 AK ck keys x.f0 (W.alloc (.cells #[.string x.f0, .string x.f1] 47)) (Kd.C_alloc hk _))
  clear hk
  go_enter Try.func63, Try.ntmps63
  go_wp2_with fail
  refine HK.out.mono ?_
  rintro e w' ⟨rfl, rfl⟩
  go_wp2_with fail
  go_ret
  exact ⟨rfl, (Below.refl _ _).alloc (Nat.le_refl _) _⟩
theorem kv_Drop.first (p : S47 → Bool) : ∀ (l : List S47) (i : Nat), ((∀ x ∈ l, p x = false) ∧ Lib.idxByFrom (fun _ y => p y) default l i = -1) ∨ ∃ j, ∃ h : j < l.length, p l[j] = true ∧ (∀ x ∈ l.take j, p x = false) ∧ Lib.idxByFrom (fun _ y => p y) default l i = ((i + j : Nat) : Int) := by
  intro l
  induction l with
  | nil => intro i; exact .inl ⟨fun x h => by simp at h, rfl⟩
  | cons a l ih =>
    intro i
    unfold Lib.idxByFrom
    by_cases ha : p a = true
    · exact .inr ⟨0, by simp, by simp [ha], by simp, by rw [if_pos ha]; rfl⟩
    · have ha' : p a = false := by simpa using ha
      rw [if_neg ha]
      rcases ih (i + 1) with ⟨h1, h2⟩ | ⟨j, hj, h1, h2, h3⟩
      · exact .inl ⟨fun x hx => by rcases List.mem_cons.1 hx with rfl | hx; exact ha'; exact h1 x hx, h2⟩
      · exact .inr ⟨j + 1, by simp; omega, by simpa using h1, fun x hx => by rw [List.take_succ_cons] at hx; rcases List.mem_cons.1 hx with rfl | hx; exact ha'; exact h2 x hx, by rw [h3]; congr 1; omega⟩
/-! #### clear, at elements of two cells -/
theorem kv_Drop.wpList_clear {w : World} {ops : Array Oper} {rest : List Oper} {o : Oper} {a : Act} {Q : Exit → Act → World → Prop} (hgd : o.guard = none) (d : Operand)
    (ho : o.op = .call { callee := .builtin .clear, args := #[d], argTypes := #[37] })
    (g off n c : Nat) (hd : a.eval d = .slice (some ⟨g, off, none⟩) n c) (hn : 0 < n) (cur : List Value) (hg : w.heap[g]? = some (.cells cur.toArray 47 (0, 0))) (hfit : off + n * 2 ≤ cur.length)
    (h : ∀ w' cs, cs.length = n * 2 → w'.heap[g]? = some (.cells (splice cur off cs).toArray 47 (0, 0)) → (∀ B w0, Below B w0 w → B ≤ g → Below B w0 w') → wpList Try.prog ops Q rest (a.put o.dst (.tuple #[])) w') :
    wpList Try.prog ops Q (o :: rest) a w := by
  obtain ⟨i0, hi0, hz0, hzs, hzb⟩ := info_parts info47
  have hzl : (Builtin.zeroCells (Value.agg #[.string ⟨#[]⟩, .string ⟨#[]⟩]).cells n).toList.length = n * 2 := by rw [Array.length_toList, kv_Set.zeros]
  have h1 : ∀ v ∈ (Builtin.zeroCells (Value.agg #[.string ⟨#[]⟩, .string ⟨#[]⟩]).cells n).toList, v.oneCell' = true := by
    intro v hv
    simp [Builtin.zeroCells, Value.cells] at hv
    obtain ⟨i, _, rfl⟩ := hv
    rcases (by omega : i % 2 = 0 ∨ i % 2 = 1) with e | e <;> rw [e] <;> rfl
  have hst := run_storeCells_at Try.prog g off 47 _ 0 cur.toArray w hg (by rw [hzl]; simpa using hfit) h1
  obtain ⟨m, rfl⟩ : ∃ m, n = m + 1 := ⟨n - 1, by omega⟩
  have hrun : (Builtin.clear_ #[37] o.type #[.slice (some ⟨g, off, none⟩) (m + 1) c]).run Try.prog w = .ok (.tuple #[]) (w.setRow g (cur.take off ++ (Builtin.zeroCells (Value.agg #[.string ⟨#[]⟩, .string ⟨#[]⟩]).cells (m + 1)).toList ++ cur.drop (off + (Builtin.zeroCells (Value.agg #[.string ⟨#[]⟩, .string ⟨#[]⟩]).cells (m + 1)).toList.length)).toArray) := by
    simp only [Nat.add_zero] at hst
    simp [Builtin.clear_, run_underlying Try.underlying37, Try.zeroValue47, hst]
  refine wpList_plain hgd fun K hK => ?_
  unfold Oper.wp
  simp [execOp, ho, resolve, invoke, builtin, hd, hrun, Result.andThen]
  refine hK _ _ (h _ (Builtin.zeroCells (Value.agg #[.string ⟨#[]⟩, .string ⟨#[]⟩]).cells (m + 1)).toList hzl ?_ (fun B w0 hb hBg => below_setRow hb hBg _))
  rw [setRow_heap w g cur.toArray _ 47 (0, 0) hg]
  simp [splice]
/-! #### slices.DeleteFunc -/
theorem kv_Drop.keep_take (keys : List ByteArray) (l : List S47) (j : Nat) (hj : j < l.length) : kv_Drop.keep keys (l.take (j + 1)) = kv_Drop.keep keys (l.take j) ++ (if kv_Drop.has keys l[j] = true then [] else [l[j]]) := by
  unfold kv_Drop.keep
  rw [List.take_succ_eq_append_getElem hj, List.filter_append]
  congr 1
  by_cases h : kv_Drop.has keys l[j] = true <;> simp [h]
theorem kv_Drop.drops {M l : List S47} {j : Nat} (h : M.drop j = l.drop j) (h1 : j < M.length) (h2 : j < l.length) : M[j] = l[j] ∧ M.drop (j + 1) = l.drop (j + 1) := by
  rw [List.drop_eq_getElem_cons h1, List.drop_eq_getElem_cons h2] at h
  exact List.cons.inj h
theorem kv_Drop.rowAt {w : World} {base g cap n : Nat} {l : List S47} (h : w.ownsRow base 47 2 (.slice (some ⟨g, 0, none⟩) n cap) n (kv_Set.enc l)) (hn : l.length = n) (i : Nat) (hi : i < l.length) :
    w.cell? ⟨g, i * 2, none⟩ = some (.string l[i].f0) ∧ w.cell? ⟨g, i * 2 + 1, none⟩ = some (.string l[i].f1) ∧ w.frozen? ⟨g, i * 2, none⟩ = false ∧ w.frozen? ⟨g, i * 2 + 1, none⟩ = false ∧ base ≤ g ∧ g < w.heap.size := by
  subst hn
  obtain ⟨A, c, e, _, hr⟩ := kv_Set.reads h
  cases e
  obtain ⟨ad, e, h1, h2⟩ := kv_Set.at_ hr i hi
  cases e
  have ha : (⟨g, 0, none⟩ : Addr).add (i * 2) = ⟨g, i * 2, none⟩ := by unfold Addr.add; split <;> simp_all
  rw [ha] at h1 h2
  obtain ⟨_, _, h3, h4, h5⟩ := kv_Set.cellsAt h i hi
  exact ⟨h1, h2, h3, h4, h5, own_lt h g rfl⟩
theorem kv_Drop.boxOf {w w1 : World} {B : Nat} {o : Obj} (h : w.heap[B]? = some o) (hb : Below w.heap.size w w1) : w1.heap[B]? = some o := (hb.block B (Array.getElem?_eq_some_iff.1 h).1).trans h
theorem kv_Drop.boxSet {w : World} {B g : Nat} {o : Obj} (h : w.heap[B]? = some o) (hne : B ≠ g) (i j : Nat) (u v : Value) : ((w.setCell ⟨g, i, none⟩ u).setCell ⟨g, j, none⟩ v).heap[B]? = some o := by
  rw [Below.heap_setCell _ _ _ _ hne, Below.heap_setCell _ _ _ _ hne]
  exact h
set_option maxHeartbeats 8000000 in
set_option maxRecDepth 100000 in
theorem kv_Drop.del62 (w0 w : World) (hb0 : Below w0.heap.size w0 w) (B : Nat) (AK : Option Addr) (ck : Nat) (keys : List ByteArray) (hBc : w.heap[B]? = some (.cells #[.slice AK keys.length ck] 49 (0, 0))) (hk : Kd.C Kd.string w0 AK keys.length keys)
    (v : Value) (l : List S47) (ho : w.ownsRow w0.heap.size 47 2 v l.length (kv_Set.enc l)) (hne : v.ownBlock ≠ some B) (hbig : l.length * 32 ≤ 140737488355328) :
    Calls Try.prog 62 #[v, .func (.func 63) #[] #[.pointer (some ⟨B, 0, none⟩)]] w fun e w' => ∃ v', e = .returned v' ∧ w'.ownsRow w0.heap.size 47 2 v' (kv_Drop.keep keys l).length (kv_Set.enc (kv_Drop.keep keys l)) ∧ Below w0.heap.size w0 w' := by
  by_cases h0 : l = []
  · subst h0
    obtain ⟨A, c, rfl⟩ := own_slice ho
    have HO := Aside0.mk ho
    have HB0 := Aside0.mk hb0
    clear ho hb0 hBc hk hne hbig
    go_enter Try.func62, Try.ntmps62
    go_wp2_with fail
    refine (kv_Get.empty _ _ _ _).mono ?_
    rintro e w' ⟨rfl, rfl⟩
    go_wp2_with fail
    go_ret
    exact ⟨_, rfl, HO.out, HB0.out⟩
  have hp : 0 < l.length := List.length_pos_iff.2 h0
  obtain ⟨g, cap, rfl, hgc⟩ : ∃ g cap, v = .slice (some ⟨g, 0, none⟩) l.length cap ∧ l.length ≤ cap ∧ cap ≤ maxLen := by
    rcases ho.2 with ⟨_, h1⟩ | ⟨g, cap, cur, e, _, _, h1, h2, _⟩
    · omega
    · exact ⟨g, cap, e, h1, h2⟩
  have hBg : B ≠ g := fun e => hne (by rw [e]; rfl)
  have hBw : B < w.heap.size := (Array.getElem?_eq_some_iff.1 hBc).1
  have eg : ∀ args w, (callFunc 63 args).run Try.prog w = .ok (.enter 63 args) w := enters_of Try.func63 (by kernel_rfl) rfl
  have hpb : PredBelow Try.prog 63 #[.pointer (some ⟨B, 0, none⟩)] (fun x : S47 => .agg (kv_Get.enc x).toArray) (kv_Drop.has keys) w := fun W x hb => by
    have h1 := kv_Drop.boxOf hBc hb
    refine (kv_Drop.pred63 B AK ck keys x W (by simp [World.cell?, h1]) (Nat.lt_of_lt_of_le hBw hb.size) (Kd.C_below hk (below_step hb0 hb))).mono fun e w' ⟨he, hb2⟩ => ⟨he, hb.trans (hb2.mono hb.size)⟩
  have hcon := AnyQ.slices_IndexFunc Try.laysG53 2 Try.isAgg47 Try.sizeOf47 kv_Get.enc (fun _ => rfl) (kv_Drop.has keys) 63 #[.pointer (some ⟨B, 0, none⟩)] eg g 0 l.length cap l w hpb (Nat.le_refl _) (by omega) (own_lt ho g rfl) (fun j hj i v hi => by
    have h1 := kv_Drop.rowAt ho rfl j hj
    rw [List.getElem!_eq_getElem?_getD, List.getElem?_eq_getElem hj, Option.getD_some] at hi
    match i, hi with
    | 0, hi => simp [kv_Get.enc] at hi; rw [← hi, Nat.zero_add]; exact h1.1
    | 1, hi => simp [kv_Get.enc] at hi; rw [← hi, Nat.zero_add]; exact h1.2.1
    | i + 2, hi => simp [kv_Get.enc] at hi)
  change Calls Try.prog 53 _ _ _ at hcon
  rw [List.take_length] at hcon
  have HO := Aside0.mk ho
  have HB0 := Aside0.mk hb0
  have HBC := Aside0.mk hBc
  have HK := Aside0.mk hk
  have HBIG := Aside0.mk hbig
  have HBW := Aside0.mk hBw
  have HGC := Aside0.mk hgc
  have HBG := Aside0.mk hBg
  clear ho hb0 hBc hk hne hbig hBw hgc hBg h0 hpb eg
  rcases kv_Drop.first (kv_Drop.has keys) l 0 with ⟨hall, hi⟩ | ⟨i0, hj, hit, hall, hi⟩
  · rw [show Lib.idxBy (fun _ (y : S47) => kv_Drop.has keys y) l default = -1 from hi] at hcon
    have HCON := Aside0.mk hcon
    have hkeep : kv_Drop.keep keys l = l := by
      unfold kv_Drop.keep
      rw [List.filter_eq_self]
      intro x hx
      rw [hall x hx]
      rfl
    have HKEEP := Aside0.mk hkeep
    clear hcon hi hall hkeep
    go_enter Try.func62, Try.ntmps62
    go_wp2_with fail
    refine HCON.out.mono ?_
    rintro e w1 ⟨rfl, hb⟩
    have HB := Aside0.mk hb
    clear hb
    go_wp2_with fail
    go_ret
    exact ⟨_, rfl, by rw [HKEEP.out]; exact kv_Set.own_below HO.out HB.out, below_step HB0.out HB.out⟩
  · rw [show Lib.idxBy (fun _ (y : S47) => kv_Drop.has keys y) l default = (i0 : Int) from by rw [show Lib.idxBy (fun _ (y : S47) => kv_Drop.has keys y) l default = _ from hi, Nat.zero_add]] at hcon
    have HCON := Aside0.mk hcon
    have hst : (l.take i0) = kv_Drop.keep keys (l.take (i0 + 1)) := by
      rw [kv_Drop.keep_take keys l i0 hj, if_pos hit, List.append_nil]
      unfold kv_Drop.keep
      symm
      rw [List.filter_eq_self]
      intro x hx
      rw [hall x hx]
      rfl
    have HST := Aside0.mk hst
    clear hcon hi hall hst hit
    obtain ⟨n, hn⟩ : ∃ n, n = l.length := ⟨_, rfl⟩
    have HN := Aside0.mk hn
    have HOn := Aside0.mk (show w.ownsRow w0.heap.size 47 2 (.slice (some ⟨g, 0, none⟩) n cap) n (kv_Set.enc l) by rw [hn]; exact HO.out)
    rw [← hn] at hj hp HCON ⊢
    have hnc : n ≤ cap := by rw [hn]; exact HGC.out.1
    have hc63 : cap ≤ 9223372036854775807 := by have := HGC.out.2; unfold maxLen at this; omega
    clear hn HO
    have hi1 : ((i0 : Int) == -1) = false := beq_eq_false_iff_ne.2 (by omega)
    go_enter Try.func62, Try.ntmps62
    go_wp2_with fail
    refine HCON.out.mono ?_
    rintro e w1 ⟨rfl, hb⟩
    have HB1 := Aside0.mk (below_step HB0.out hb)
    have HO1 := Aside0.mk (kv_Set.own_below HOn.out hb)
    have HBC1 := Aside0.mk (kv_Drop.boxOf HBC.out hb)
    clear hb HCON HOn HBC
    go_wp2_with fail
    go_loopw [5, 6] (fun iv jv wr => ∃ (i j : Nat) (M : List S47), iv = .int .i64 i ∧ jv = .int .i64 j ∧ i < j ∧ j ≤ n ∧ Aside0 (M.length = n ∧ M.take i = kv_Drop.keep keys (l.take j) ∧ M.drop j = l.drop j) ∧ Aside0 (wr.ownsRow w0.heap.size 47 2 (.slice (some ⟨g, 0, none⟩) n cap) n (kv_Set.enc M)) ∧ Aside0 (Below w0.heap.size w0 wr) ∧ Aside0 (wr.heap[B]? = some (.cells #[.slice AK keys.length ck] 49 (0, 0)))) (fun _ jv _ => n - (intOf jv).toNat)
    case atStart => exact ⟨i0, i0 + 1, l, rfl, by go_num, by omega, by omega, ⟨HN.out.symm, HST.out, rfl⟩, HO1, HB1, HBC1⟩
    case round =>
      clear HO1 HB1 HBC1
      obtain ⟨i, j, M, rfl, rfl, hij, hjn, HM, HOW, HB, HBX⟩ := hrel
      by_cases hlt : j < n
      · obtain ⟨hx0, hx1, _, _, _, _⟩ := kv_Drop.rowAt HOW.out HM.out.1 j (by rw [HM.out.1]; exact hlt)
        obtain ⟨hy0, hy1, hf0, hf1, hgb, hgw⟩ := kv_Drop.rowAt HOW.out HM.out.1 i (by rw [HM.out.1]; omega)
        have hlj : j < l.length := by have := HN.out; omega
        obtain ⟨hMl, hdrop⟩ := kv_Drop.drops HM.out.2.2 (by rw [HM.out.1]; exact hlt) hlj
        have hkt := kv_Drop.keep_take keys l j hlj
        rw [hMl] at hx0 hx1
        obtain ⟨p, hp2⟩ : ∃ p, l[j] = p := ⟨_, rfl⟩
        rw [hp2] at hx0 hx1 hkt
        have HDR := Aside0.mk hdrop
        have HKT := Aside0.mk hkt
        have HGB := Aside0.mk hgb
        clear hMl hdrop hkt hp2 hlj hgb
        have hcall := kv_Drop.pred63 B AK ck keys p (wr.alloc (.cells #[.string p.f0, .string p.f1] 47)) (by simp [World.cell?, kv_Drop.boxOf HBX.out (below_alloc (Below.refl _ _) _)]) (by have := (Array.getElem?_eq_some_iff.1 HBX.out).1; simp; omega) (Kd.C_below HK.out (below_alloc HB.out _))
        by_cases hh : kv_Drop.has keys p = true
        · have hkt := HKT.out
          rw [if_pos hh, List.append_nil] at hkt
          rw [hh] at hcall
          have HCALL := Aside0.mk hcall
          have HKT2 := Aside0.mk hkt
          clear hcall hkt HKT hh hy0 hy1 hf0 hf1
          go_wp2_with fail
          refine HCALL.out.mono ?_
          rintro e w3 ⟨rfl, hb⟩
          have HOW3 := Aside0.mk (kv_Set.own_below (HOW.out.alloc (.cells #[.string p.f0, .string p.f1] 47)) hb)
          have HB3 := Aside0.mk (below_step (below_alloc HB.out _) hb)
          have HBX3 := Aside0.mk (kv_Drop.boxOf (kv_Drop.boxOf HBX.out (below_alloc (Below.refl _ _) (.cells #[.string p.f0, .string p.f1] 47))) hb)
          clear hb HCALL
          go_wp2_with fail
          go_roundw
          case rel => exact ⟨i, j + 1, M, rfl, by go_num, by omega, by omega, ⟨HM.out.1, by rw [HKT2.out]; exact HM.out.2.1, HDR.out⟩, HOW3, HB3, HBX3⟩
          case measure => simp [intOf]; omega
        · have hh2 : kv_Drop.has keys p = false := Bool.eq_false_iff.2 hh
          have hkt := HKT.out
          rw [if_neg hh] at hkt
          rw [hh2] at hcall
          have HCALL := Aside0.mk hcall
          have HKT2 := Aside0.mk hkt
          have HF := Aside0.mk (And.intro hf0 hf1)
          have HY := Aside0.mk (And.intro hy0 hy1)
          have HGW := Aside0.mk hgw
          clear hcall hkt HKT hh hh2 hy0 hy1 hf0 hf1 hgw
          go_wp2_with fail
          refine HCALL.out.mono ?_
          rintro e w3 ⟨rfl, hb⟩
          have hN0 : w3.cell? ⟨wr.heap.size, 0, none⟩ = some (.string p.f0) := (hb.cell (p := ⟨wr.heap.size, 0, none⟩) (by simp)).trans (by simp)
          have hN1 : w3.cell? ⟨wr.heap.size, 1, none⟩ = some (.string p.f1) := (hb.cell (p := ⟨wr.heap.size, 1, none⟩) (by simp)).trans (by simp)
          have HOW3 := Aside0.mk (kv_Set.own_below (HOW.out.alloc (.cells #[.string p.f0, .string p.f1] 47)) hb)
          have HB3 := Aside0.mk (below_step (below_alloc HB.out _) hb)
          have HBX3 := Aside0.mk (kv_Drop.boxOf (kv_Drop.boxOf HBX.out (below_alloc (Below.refl _ _) (.cells #[.string p.f0, .string p.f1] 47))) hb)
          obtain ⟨hy0, hy1, hf0, hf1, _, _⟩ := kv_Drop.rowAt HOW3.out HM.out.1 i (by rw [HM.out.1]; omega)
          clear hb HCALL hx0 hx1
          go_wp2_with fail
          go_roundw
          case rel =>
            refine ⟨i + 1, j + 1, M.set i p, by go_num, by go_num, by omega, by omega, ⟨by rw [List.length_set]; exact HM.out.1, ?_, ?_⟩, ⟨?_⟩, ⟨(HB3.out.setCell HGB.out _).setCell HGB.out _⟩, ⟨kv_Drop.boxSet HBX3.out HBG.out _ _ _ _⟩⟩
            · have hiM : i < M.length := by rw [HM.out.1]; omega
              rw [HKT2.out, ← HM.out.2.1, List.take_succ_eq_append_getElem (by rw [List.length_set]; exact hiM), List.getElem_set_self, List.take_set_of_le (Nat.le_refl _)]
            · rw [List.drop_set_of_lt (by omega)]
              exact HDR.out
            · have h1 : w3.ownsRow w0.heap.size 47 2 (.slice (some ⟨g, 0, none⟩) M.length cap) M.length (kv_Set.enc M) := by rw [HM.out.1]; exact HOW3.out
              have := kv_Set.store h1 i (by rw [HM.out.1]; omega) p
              rw [HM.out.1] at this
              exact this
          case measure => simp [intOf]; omega
      · obtain rfl : j = n := by omega
        have hM := HM.out
        rw [show l.take j = l from by rw [HN.out, List.take_length]] at hM
        have HM2 := Aside0.mk hM
        clear hM HM hlt
        obtain ⟨_, _, _, _, hgb, _⟩ := kv_Drop.rowAt HOW.out HM2.out.1 i (by rw [HM2.out.1]; omega)
        have HGB := Aside0.mk hgb
        have hci : ¬ cap = i := by omega
        have hin : i ≤ j := by omega
        clear hgb
        obtain ⟨cur, hcur, hcs, hcz⟩ : ∃ cur : List Value, wr.heap[g]? = some (.cells cur.toArray 47 (0, 0)) ∧ cur.length = cap * 2 ∧ cur.take (j * 2) = kv_Set.enc M := by
          rcases HOW.out.2 with ⟨e, _⟩ | ⟨g', cap', cur, e, _, hg, _, _, hcz, hx⟩
          · cases e
          · cases e
            exact ⟨cur.toList, by simpa using hg, by simpa using hcz, hx⟩
        have HCUR := Aside0.mk hcur
        have HCS := Aside0.mk hcs
        have HCZ := Aside0.mk hcz
        clear hcur hcs hcz
        go_wp2_with ((with_reducible refine gate_builtin (b := .clear) (xs := #[.tmp 38]) rfl ?_); refine kv_Drop.wpList_clear rfl _ rfl g (i * 2) (j - i) (cap - i) rfl ?q1 cur ?q2 ?q3 ?_)
        case q1 => omega
        case q2 => exact HCUR.out
        case q3 => rw [HCS.out]; omega
        intro w3 cs hcl hr3 hb3
        have hfin : w3.ownsRow w0.heap.size 47 2 (.slice (some ⟨g, 0, none⟩) i cap) (kv_Drop.keep keys l).length (kv_Set.enc (kv_Drop.keep keys l)) := by
          have hl : (kv_Drop.keep keys l).length = i := by rw [← HM2.out.2.1, List.length_take, HM2.out.1]; omega
          have hcut : cur.take (i * 2) = kv_Set.enc (kv_Drop.keep keys l) := by
            rw [← HM2.out.2.1, ← kv_Set.enc_take, ← HCZ.out, List.take_take]
            congr 1
            omega
          have hrow : splice cur (i * 2) cs = kv_Set.enc (kv_Drop.keep keys l) ++ (cs ++ cur.drop (i * 2 + cs.length)) := by
            unfold splice
            rw [hcut]
          have := kv_Set.own_row (w := w3) (base := w0.heap.size) (g := g) (cap := cap) (l := kv_Drop.keep keys l) (Z := cs ++ cur.drop (i * 2 + cs.length)) HGB.out (by rw [← hrow]; exact hr3) (by rw [hl]; omega) HGC.out.2 (by rw [← hrow, length_splice _ _ _ (by rw [hcl, HCS.out]; omega), HCS.out])
          rw [hl] at this ⊢
          exact this
        have HFIN := Aside0.mk hfin
        have HBEL := Aside0.mk (hb3 _ _ HB.out HGB.out)
        clear hfin hr3 hb3 hcl
        go_wp2
        go_ret
        exact ⟨_, rfl, HFIN.out, HBEL.out⟩
set_option maxHeartbeats 4000000 in
set_option maxRecDepth 100000 in
theorem kv_Drop.calls (A0 : Option Addr) (c0 : Nat) (l0 : List S47) (A1 : Option Addr) (c1 : Nat) (l1 : List ByteArray) (r : List S47) (w : World) (hr0 : Kd.C k47 w A0 l0.length l0) (hc0 : l0.length ≤ c0) (hr1 : Kd.C Kd.string w A1 l1.length l1) (hc1 : l1.length ≤ c1) (h : kv_Drop.f l0 l1 = some r) :
    Calls Try.prog 34 #[.slice A0 l0.length c0, .slice A1 l1.length c1] w fun e w' => ∃ v0_ : Value, e = .returned (v0_) ∧ Kd.R k47 47 w' w.heap.size (fun _ => True) v0_ r ∧ Below w.heap.size w w' := by
  unfold kv_Drop.f at h
  by_cases hs : l0.length * 32 ≤ 140737488355328
  · rw [if_pos hs] at h
    cases h
    have HCL := Aside0.mk (api_Pair.calls A0 c0 l0 l0 (w.alloc (.cells #[.slice A1 l1.length c1] 49)) (Kd.C_alloc hr0 _) hc0 (by unfold api_Pair.f; rw [if_pos hs]))
    have HS := Aside0.mk hs
    have HR1 := Aside0.mk hr1
    clear hr0 hc0 hr1 hc1 hs
    go_enter Try.func34, Try.ntmps34
    go_wp2_with fail
    refine HCL.out.mono ?_
    rintro e w1 ⟨v0, rfl, ho, hb⟩
    have hB : w1.heap[w.heap.size]? = some (.cells #[.slice A1 l1.length c1] 49 (0, 0)) := kv_Drop.boxOf (heap_alloc_new w (.cells #[.slice A1 l1.length c1] 49)) hb
    have hb0 : Below w.heap.size w w1 := below_step (below_alloc (Below.refl _ _) _) hb
    have hne : v0.ownBlock ≠ some w.heap.size := fun e => by
      have := own_base (kv_Set.ofR ho) _ e
      simp at this
      omega
    have HDEL := Aside0.mk (kv_Drop.del62 w w1 hb0 w.heap.size A1 c1 l1 hB HR1.out v0 l0 (own_less (kv_Set.ofR ho) (by simp)) hne HS.out)
    clear hB hb0 hne ho hb HCL
    go_wp2_with fail
    refine HDEL.out.mono ?_
    rintro e w2 ⟨v1, rfl, h1, h2⟩
    have HR := Aside0.mk (kv_Set.toR h1)
    have HB := Aside0.mk h2
    clear h1 h2 HDEL
    go_wp2_with fail
    go_ret
    exact ⟨_, rfl, HR.out, HB.out⟩
  · rw [if_neg hs] at h
    cases h

end Go.Proofs.Ytbgndegdegfebaa.K
