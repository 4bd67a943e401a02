-- PRINTED by print.py (a twelfth state) out of the translation. Not trusted: Lean checks it.
import Derived.Test.YtbgndegdegfebaaDoorR0
namespace Go.Proofs.YtbgndegdegfebaaDoor.R
open Go.RowKit Go.Proofs.YtbgndegdegfebaaDoorW.PrintWords Go.Proofs.YtbgndegdegfebaaDoorW.PrintLast Go.Proofs.YtbgndegdegfebaaDoorW.PrintMore
attribute [local go_sem] max2_int min2_int max_two min_two max_three min_three max_four min_four   -- for this text's walks alone
set_option linter.unusedVariables false
set_option linter.unusedSimpArgs false

-- EXT 49 path_Kid making shp=0_2 rsh=1:V,2:V share=0:2
/-! ### path_Kid: function 49, by hand -/
def path_Kid.f (a0_0 : ByteArray) (l0_1 : List (S60)) (l0_2 : List (S64)) (a1 : ByteArray) : Option (ByteArray × (List (S60)) × (List (S64)) × Bool) :=
  if l0_2 = [] then none else match l0_2.find? (fun x => x.f0.toList == a1.toList) with
  | some x => some (x.f0, x.f1, x.f2, true)
  | none => some (⟨#[]⟩, [], [], false)
instance path_Kid.inh : Inhabited S64 := ⟨z64⟩
instance path_Kid.inh3 : Inhabited (ByteArray × Value × Value) := ⟨(⟨#[]⟩, .nilIface, .nilIface)⟩
def path_Kid.enc (x : ByteArray × Value × Value) : List Value := [.string x.1, x.2.1, x.2.2]
theorem kid_cell0 (w : World) (a b c : Value) : (w.alloc (.cells #[a, b, c] 64)).cell? ⟨w.heap.size, 2, none⟩ = some c :=
  (World.cell?_alloc_new w _ 64 2).trans rfl
theorem kid_cell1 (w : World) (v c0 c1 c2 : Value) : ((w.alloc (.cells #[c0, c1, c2] 64)).alloc (.cells #[v] 9)).cell? ⟨w.heap.size + 1, 0, none⟩ = some v := by
  simp
theorem path_Kid.pred (name : ByteArray) (B : Nat) (w : World) (hB : B < w.heap.size) (hcell : w.cell? ⟨B, 0, none⟩ = some (.string name)) :
    PredBelow Tryd.prog 61 #[.pointer (some ⟨B, 0, none⟩)] (fun x : ByteArray × Value × Value => .agg (path_Kid.enc x).toArray) (fun x => x.1.toList == name.toList) w := fun W x hb => by
  have hc : W.cell? ⟨B, 0, none⟩ = some (.string name) := (hb.cell (p := ⟨B, 0, none⟩) hB).trans hcell
  have hBW : B < W.heap.size := Nat.lt_of_lt_of_le hB hb.size
  show Calls Tryd.prog 61 #[.agg #[.string x.1, x.2.1, x.2.2], .pointer (some ⟨B, 0, none⟩)] W _
  go_enter Tryd.func61, Tryd.ntmps61
  go_wp2
  go_ret
  exact ⟨rfl, hb.alloc hb.size _⟩
theorem path_Kid.find (p : ByteArray → Bool) : ∀ (l : List S64) (zs : List (ByteArray × Value × Value)) (i : Nat), zs.length = l.length → (∀ (j : Nat) (h : j < l.length) (h2 : j < zs.length), zs[j].1 = l[j].f0) →
    (l.find? (fun x => p x.f0) = none ∧ Lib.idxByFrom (fun _ y => p y.1) default zs i = -1) ∨ ∃ j, ∃ h : j < l.length, l.find? (fun x => p x.f0) = some l[j] ∧ Lib.idxByFrom (fun _ y => p y.1) default zs i = ((i + j : Nat) : Int) := by
  intro l
  induction l with
  | nil =>
    intro zs i hl hz
    obtain rfl : zs = [] := List.length_eq_zero_iff.1 hl
    exact .inl ⟨rfl, rfl⟩
  | cons a l ih =>
    intro zs i hl hz
    match zs, hl with
    | z :: zs, hl =>
      have hz0 : z.1 = a.f0 := hz 0 (by simp) (by simp)
      unfold Lib.idxByFrom
      by_cases ha : p a.f0 = true
      · exact .inr ⟨0, by simp, by simp [ha], by rw [hz0, if_pos ha]; rfl⟩
      · have ha' : p a.f0 = false := by simpa using ha
        rw [hz0, if_neg ha]
        rcases ih zs (i + 1) (by simpa using hl) (fun j h h2 => hz (j + 1) (by simp; omega) (by simp; omega)) with ⟨h1, h2⟩ | ⟨j, hj, h1, h2⟩
        · exact .inl ⟨by simp [ha', h1], h2⟩
        · exact .inr ⟨j + 1, by simp; omega, by simp [ha', h1], by rw [h2]; congr 1; omega⟩
theorem path_Kid.choose {α : Type} [Inhabited α] (P : Nat → α → Prop) (n : Nat) (h : ∀ j, j < n → ∃ y, P j y) : ∃ zs : List α, zs.length = n ∧ ∀ (j : Nat) (hj : j < zs.length), P j zs[j] := by
  induction n with
  | zero => exact ⟨[], rfl, fun j hj => absurd hj (by simp)⟩
  | succ n ih =>
    obtain ⟨zs, hl, hz⟩ := ih (fun j hj => h j (by omega))
    obtain ⟨y, hy⟩ := h n (by omega)
    refine ⟨zs ++ [y], by simp [hl], fun j hj => ?_⟩
    rcases Nat.lt_or_ge j n with hlt | hge
    · rw [List.getElem_append_left (by omega)]
      exact hz j (by omega)
    · obtain rfl : j = n := by simp [hl] at hj; omega
      rw [List.getElem_append_right (by omega)]
      simpa [hl] using hy
set_option maxHeartbeats 4000000 in
set_option maxRecDepth 100000 in
theorem path_Kid.calls (a0_0 : ByteArray) (A0_1 : Option Addr) (c0_1 : Nat) (l0_1 : List (S60)) (P0_2_ : Nat → Prop) (A0_2 : Option Addr) (c0_2 : Nat) (l0_2 : List (S64)) (a1 : ByteArray) (r1 : ByteArray) (r2 : List (S60)) (r3 : List (S64)) (r4 : Bool) (w : World) (hr0_1 : Kd.C k60 w A0_1 l0_1.length l0_1) (hc0_1 : l0_1.length ≤ c0_1) (hs0_2 : Kd.V k64 64 w w.heap.size (fun k_ => P0_2_ k_) (.slice A0_2 l0_2.length c0_2) l0_2) (h : path_Kid.f a0_0 l0_1 l0_2 a1 = some (r1, r2, r3, r4)) :
    Calls Tryd.prog 49 #[.agg #[.string a0_0, .slice A0_1 l0_1.length c0_1, .slice A0_2 l0_2.length c0_2], .string a1] w fun e w' => ∃ v1_ v2_ : Value, e = .returned (.tuple #[.agg #[.string r1, v1_, v2_], .bool r4]) ∧ Kd.V k60 60 w' w.heap.size (fun k_ => (P0_2_ k_ ∨ w.heap.size ≤ k_)) v1_ r2 ∧ Kd.V k64 64 w' w.heap.size (fun k_ => (P0_2_ k_ ∨ w.heap.size ≤ k_)) v2_ r3 ∧ Below w.heap.size w w' := by
  unfold path_Kid.f at h
  by_cases h0 : l0_2 = []
  · rw [if_pos h0] at h
    cases h
  rw [if_neg h0] at h
  have hp : 0 < l0_2.length := List.length_pos_iff.2 h0
  have hr := (Kd.V_reads' hs0_2).2.2
  have hbig := hr.2.1
  have hcap := (Kd.V_reads' hs0_2).2.1
  obtain ⟨ad, A1, c1, A2, c2, e0, hx, _⟩ := at_T64 hr 0 (by omega) (by omega)
  subst e0
  obtain ⟨b, o, sp⟩ := ad
  have hsp : sp = none := by
    cases sp with
    | none => rfl
    | some q =>
      exfalso
      simp only [Int.toNat_zero, Nat.zero_mul, Addr.add, if_true] at hx
      unfold World.cell? at hx
      split at hx <;> simp at hx
  subst hsp
  clear hx
  have hel : ∀ j, j < l0_2.length → ∃ y : ByteArray × Value × Value, ∃ h : j < l0_2.length, y.1 = l0_2[j].f0 ∧ w.cell? ⟨b, o + j * 3, none⟩ = some (.string y.1) ∧ w.cell? ⟨b, o + j * 3 + 1, none⟩ = some y.2.1 ∧ w.cell? ⟨b, o + j * 3 + 2, none⟩ = some y.2.2 ∧
      Kd.V k60 60 w w.heap.size (fun k_ => P0_2_ k_) y.2.1 l0_2[j].f1 ∧ Kd.V k64 64 w w.heap.size (fun k_ => P0_2_ k_) y.2.2 l0_2[j].f2 := by
    intro j hj
    obtain ⟨cs, hcs, hFK, hcc⟩ := Kd.V_get hs0_2 z64 j (by omega) (by omega)
    have hrd : l0_2.getD (j : Int).toNat z64 = l0_2[j] := by simp [List.getD_eq_getElem?_getD, hj]
    rw [hrd] at hFK
    obtain ⟨A1, c1, A2, c2, rfl, l1, g1, l2, g2⟩ := k64_openF hFK
    have ha : ∀ q, (⟨b, o, none⟩ : Addr).add ((j : Int).toNat * k64.sz + q) = ⟨b, o + j * 3 + q, none⟩ := by
      intro q
      have hsz : k64.sz = 3 := rfl
      rw [hsz, Int.toNat_natCast]
      unfold Addr.add
      split
      · rename_i hz
        have : j * 3 = 0 ∧ q = 0 := by omega
        simp [this.1, this.2]
      · rw [Nat.add_assoc]
    have q0 := hcc 0 _ rfl
    have q1 := hcc 1 _ rfl
    have q2 := hcc 2 _ rfl
    rw [ha] at q0 q1 q2
    exact ⟨(l0_2[j].f0, .slice A1 l0_2[j].f1.length c1, .slice A2 l0_2[j].f2.length c2), hj, rfl, q0, q1, q2, Kd.V_mk l1 g1, Kd.V_mk l2 g2⟩
  obtain ⟨zs, hzl, hzz⟩ := path_Kid.choose _ l0_2.length hel
  have hbw : b < w.heap.size := World.block_lt_of_cell? w _ (hzz 0 (by omega)).2.2.1
  clear hel hr hs0_2 hr0_1
  have eg : ∀ args w, (callFunc 61 args).run Tryd.prog w = .ok (.enter 61 args) w := enters_of Tryd.func61 (by kernel_rfl) rfl
  have hcon := AnyQ.slices_IndexFunc Tryd.laysG60 3 Tryd.isAgg64 Tryd.sizeOf64 path_Kid.enc (fun _ => rfl) (fun x => x.1.toList == a1.toList) 61 #[.pointer (some ⟨w.heap.size + 1, 0, none⟩)] eg b o l0_2.length c0_2 zs
    (((w.alloc (.cells #[.string a0_0, .slice A0_1 l0_1.length c0_1, .slice (some ⟨b, o, none⟩) l0_2.length c0_2] 64)).alloc (.cells #[.string a1] 9)).alloc (.cells #[.string ⟨#[]⟩, .slice none 0 0, .slice none 0 0] 64))
    (path_Kid.pred a1 (w.heap.size + 1) _ (by simp) (Lib.cell?_alloc_some _ (kid_cell1 _ _ _ _ _))) (by omega) hbig (by simp; omega) (fun j hj i v hi => by
      refine Lib.cell?_alloc_some _ (Lib.cell?_alloc_some _ (Lib.cell?_alloc_some _ ?_))
      have h1 := hzz j hj
      rw [List.getElem!_eq_getElem?_getD, List.getElem?_eq_getElem hj, Option.getD_some] at hi
      match i, hi with
      | 0, hi => simp [path_Kid.enc] at hi; rw [← hi]; exact h1.2.2.1
      | 1, hi => simp [path_Kid.enc] at hi; rw [← hi]; exact h1.2.2.2.1
      | 2, hi => simp [path_Kid.enc] at hi; rw [← hi]; exact h1.2.2.2.2.1
      | i + 3, hi => simp [path_Kid.enc] at hi)
  change Calls Tryd.prog 60 _ _ _ at hcon
  rw [List.take_of_length_le (by omega)] at hcon
  have HC := Aside0.mk hzz
  clear hzz
  have hold : ∀ w' : World, Below (((w.alloc (.cells #[.string a0_0, .slice A0_1 l0_1.length c0_1, .slice (some ⟨b, o, none⟩) l0_2.length c0_2] 64)).alloc (.cells #[.string a1] 9)).alloc (.cells #[.string ⟨#[]⟩, .slice none 0 0, .slice none 0 0] 64)).heap.size (((w.alloc (.cells #[.string a0_0, .slice A0_1 l0_1.length c0_1, .slice (some ⟨b, o, none⟩) l0_2.length c0_2] 64)).alloc (.cells #[.string a1] 9)).alloc (.cells #[.string ⟨#[]⟩, .slice none 0 0, .slice none 0 0] 64)) w' →
      w'.cell? ⟨w.heap.size, 2, none⟩ = some (.slice (some ⟨b, o, none⟩) l0_2.length c0_2) ∧ w'.heap[w.heap.size + 2]? = some (.cells #[.string ⟨#[]⟩, .slice none 0 0, .slice none 0 0] 64 (0, 0)) ∧ Below w.heap.size w w' := fun w' hb => by
    refine ⟨(hb.cell (p := ⟨w.heap.size, 2, none⟩) (by simp <;> omega)).trans (Lib.cell?_alloc_some _ (Lib.cell?_alloc_some _ (kid_cell0 _ _ _ _))), ?_, ?_⟩
    · rw [hb.block (w.heap.size + 2) (by simp)]
      simpa using heap_alloc_new ((w.alloc (.cells #[.string a0_0, .slice A0_1 l0_1.length c0_1, .slice (some ⟨b, o, none⟩) l0_2.length c0_2] 64)).alloc (.cells #[.string a1] 9)) (.cells #[.string ⟨#[]⟩, .slice none 0 0, .slice none 0 0] 64)
    · exact (((((Below.refl _ w).alloc (Nat.le_refl _) _).alloc (by simp) _)).alloc (by simp; omega) _).trans (hb.mono (by simp; omega))
  have HO := Aside0.mk hold
  clear hold
  rcases path_Kid.find (fun x => x.toList == a1.toList) l0_2 zs 0 hzl (fun j h h2 => (HC.out j h2).2.1) with ⟨hf, hi⟩ | ⟨j, hj, hf, hi⟩
  · rw [hf] at h
    cases h
    rw [show Lib.idxBy (fun _ (y : ByteArray × Value × Value) => y.1.toList == a1.toList) zs default = -1 from hi] at hcon
    have HCON := Aside0.mk hcon
    clear hcon hi hf
    go_enter Tryd.func49, Tryd.ntmps49
    go_wp2_with fail
    refine HCON.out.mono ?_
    rintro e w' ⟨rfl, hb⟩
    obtain ⟨hc, hblk, hB⟩ := HO.out w' hb
    have q0 := (blk_cell hblk 0).trans rfl
    have q1 := (blk_cell hblk 1).trans rfl
    have q2 := (blk_cell hblk 2).trans rfl
    have f0 := blk_frozen hblk 0
    have f1 := blk_frozen hblk 1
    have f2 := blk_frozen hblk 2
    have HB := Aside0.mk hB
    have HK := Aside0.mk hblk
    clear hb hB hblk
    go_wp2_with fail
    refine bodyPost_ret (results_ct rfl _ _ (w.heap.size + 2) 64 #[.string (⟨#[]⟩ : ByteArray), .slice none 0 0, .slice none 0 0] (0, 0) _ rfl (blk_put (cs := #[.string (⟨#[]⟩ : ByteArray), .slice none 0 0, .slice none 0 0]) (blk_put (cs := #[.string (⟨#[]⟩ : ByteArray), .slice none 0 0, .slice none 0 0]) (blk_put (cs := #[.string (⟨#[]⟩ : ByteArray), .slice none 0 0, .slice none 0 0]) HK.out 0 _ rfl) 1 _ rfl) 2 _ rfl) Tryd.underlying64 rfl (by kernel_rfl)) rfl ?_
    exact ⟨_, _, rfl, Kd.V_nil _ _ _ _ _, Kd.V_nil _ _ _ _ _, below_set (below_set (below_set HB.out (by omega)) (by omega)) (by omega)⟩
  · rw [hf] at h
    cases h
    rw [show Lib.idxBy (fun _ (y : ByteArray × Value × Value) => y.1.toList == a1.toList) zs default = (j : Int) from by rw [show Lib.idxBy (fun _ (y : ByteArray × Value × Value) => y.1.toList == a1.toList) zs default = _ from hi, Nat.zero_add]] at hcon
    have hjz : j < zs.length := by omega
    have HCON := Aside0.mk hcon
    clear hcon hi hf
    go_enter Tryd.func49, Tryd.ntmps49
    go_wp2_with fail
    refine HCON.out.mono ?_
    rintro e w' ⟨rfl, hb⟩
    obtain ⟨hc, hblk, hB⟩ := HO.out w' hb
    obtain ⟨_, hy0, hy1, hy2, hy3, hy4, hy5⟩ := HC.out j hjz
    have d0 := (hB.cell (p := ⟨b, o + j * 3, none⟩) hbw).trans hy1
    have d1 := (hB.cell (p := ⟨b, o + j * 3 + 1, none⟩) hbw).trans hy2
    have d2 := (hB.cell (p := ⟨b, o + j * 3 + 2, none⟩) hbw).trans hy3
    rw [hy0] at d0
    generalize zs[j].2.1 = y1 at d1 hy4
    generalize zs[j].2.2 = y2 at d2 hy5
    have HV4 := Aside0.mk hy4
    have HV5 := Aside0.mk hy5
    obtain ⟨A4, c4, rfl, _, _⟩ := hy4
    obtain ⟨A5, c5, rfl, _, _⟩ := hy5
    clear hy0 hy1 hy2 hy3 HC HCON HO
    have q0 := (blk_cell hblk 0).trans rfl
    have q1 := (blk_cell hblk 1).trans rfl
    have q2 := (blk_cell hblk 2).trans rfl
    have f0 := blk_frozen hblk 0
    have f1 := blk_frozen hblk 1
    have f2 := blk_frozen hblk 2
    have HB := Aside0.mk hB
    have HK := Aside0.mk hblk
    clear hb hB hblk
    go_wp2_with fail
    refine bodyPost_ret (results_ct rfl _ _ (w.heap.size + 2) 64 #[.string l0_2[j].f0, .slice A4 l0_2[j].f1.length c4, .slice A5 l0_2[j].f2.length c5] (0, 0) _ rfl (blk_put (cs := #[.string l0_2[j].f0, .slice A4 l0_2[j].f1.length c4, .slice none 0 0]) (blk_put (cs := #[.string l0_2[j].f0, .slice none 0 0, .slice none 0 0]) (blk_put (cs := #[.string (⟨#[]⟩ : ByteArray), .slice none 0 0, .slice none 0 0]) HK.out 0 _ rfl) 1 _ rfl) 2 _ rfl) Tryd.underlying64 rfl (by kernel_rfl)) rfl ?_
    have hbel := below_set (j := 2) (v := .slice A5 l0_2[j].f2.length c5) (below_set (j := 1) (v := .slice A4 l0_2[j].f1.length c4) (below_set (j := 0) (v := .string l0_2[j].f0) HB.out (g := w.heap.size + 2) (by omega)) (g := w.heap.size + 2) (by omega)) (g := w.heap.size + 2) (by omega)
    exact ⟨_, _, rfl, Kd.V_mono (Kd.V_below HV4.out hbel) (fun _ => .inl), Kd.V_mono (Kd.V_below HV5.out hbel) (fun _ => .inl), hbel⟩

end Go.Proofs.YtbgndegdegfebaaDoor.R
