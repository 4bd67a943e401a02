-- PRINTED by print.py (a twelfth state) out of the translation. Not trusted: Lean checks it.
import Derived.Test.YtbgndegdegfebaaK0
import Derived.Test.YtbgndegdegfebaaK5
import Derived.Test.YtbgndegdegfebaaK11
namespace Go.Proofs.Ytbgndegdegfebaa.K
open Go.RowKit Go.Proofs.YtbgndegdegfebaaW.PrintWords Go.Proofs.YtbgndegdegfebaaW.PrintLast Go.Proofs.YtbgndegdegfebaaW.PrintMore
attribute [local go_sem] max2_int min2_int max_two min_two max_three min_three max_four min_four   -- for this text's walks alone
set_option linter.unusedVariables false
set_option linter.unusedSimpArgs false

-- EXT 32 kv_Set making rounds deps=29,47,58
/-! ### kv_Set: function 32, by hand, with slices.BinarySearchFunc and slices.Insert at pairs -/
theorem kv_Set.at_ {w : World} {A : Option Addr} {l : List S47} (h : Kd.C k47 w A l.length l) (k : Nat) (hk : k < l.length) : ∃ ad, A = some ad ∧ w.cell? (ad.add (k * 2)) = some (.string l[k].f0) ∧ w.cell? ⟨(ad.add (k * 2)).block, (ad.add (k * 2)).off + 1, none⟩ = some (.string l[k].f1) := by
  obtain ⟨ad, e, h1, h2⟩ := at_T47 h k (by omega) (by omega)
  have hr : rd_T47 l (k : Int) = l[k] := by simp [rd_T47, List.getD_eq_getElem?_getD, hk]
  rw [Int.toNat_natCast, hr] at h1 h2
  exact ⟨ad, e, h1, h2⟩
/-! #### where a key is, or belongs -/
def kv_Set.cmp (l : List S47) (key : ByteArray) (h : Nat) : Int := Lib.compareBytes (l.getD h z47).f0.data.toList key.data.toList
def kv_Set.bs (l : List S47) (key : ByteArray) : Nat → Nat → Nat → Nat
  | 0, lo, _ => lo
  | k + 1, lo, hi => if lo < hi then (if kv_Set.cmp l key ((lo + hi) / 2) < 0 then kv_Set.bs l key k ((lo + hi) / 2 + 1) hi else kv_Set.bs l key k lo ((lo + hi) / 2)) else lo
theorem kv_Set.bs_stop (l : List S47) (key : ByteArray) (f lo hi : Nat) (h : hi ≤ lo) : kv_Set.bs l key f lo hi = lo := by
  cases f with
  | zero => rfl
  | succ f => rw [kv_Set.bs, if_neg (by omega)]
theorem kv_Set.bs_enough (l : List S47) (key : ByteArray) : ∀ (f g lo hi : Nat), hi - lo ≤ f → hi - lo ≤ g → kv_Set.bs l key f lo hi = kv_Set.bs l key g lo hi
  | 0, g, lo, hi, h, _ => by rw [kv_Set.bs_stop l key 0 lo hi (by omega), kv_Set.bs_stop l key g lo hi (by omega)]
  | f + 1, 0, lo, hi, _, h => by rw [kv_Set.bs_stop l key (f + 1) lo hi (by omega), kv_Set.bs_stop l key 0 lo hi (by omega)]
  | f + 1, g + 1, lo, hi, h1, h2 => by
    by_cases hlt : lo < hi
    · rw [kv_Set.bs, kv_Set.bs, if_pos hlt, if_pos hlt, kv_Set.bs_enough l key f g ((lo + hi) / 2 + 1) hi (by omega) (by omega), kv_Set.bs_enough l key f g lo ((lo + hi) / 2) (by omega) (by omega)]
    · rw [kv_Set.bs_stop l key _ lo hi (by omega), kv_Set.bs_stop l key _ lo hi (by omega)]
theorem kv_Set.bs_less (l : List S47) (key : ByteArray) (lo hi R : Nat) (hlt : lo < hi) (hc : kv_Set.cmp l key ((lo + hi) / 2) < 0) (h : kv_Set.bs l key (hi - lo) lo hi = R) : kv_Set.bs l key (hi - ((lo + hi) / 2 + 1)) ((lo + hi) / 2 + 1) hi = R := by
  obtain ⟨m, hm⟩ : ∃ m, hi - lo = m + 1 := ⟨hi - lo - 1, by omega⟩
  rw [hm, kv_Set.bs, if_pos hlt, if_pos hc] at h
  rw [← h]
  exact kv_Set.bs_enough l key _ _ _ _ (Nat.le_refl _) (by omega)
theorem kv_Set.bs_more (l : List S47) (key : ByteArray) (lo hi R : Nat) (hlt : lo < hi) (hc : ¬ kv_Set.cmp l key ((lo + hi) / 2) < 0) (h : kv_Set.bs l key (hi - lo) lo hi = R) : kv_Set.bs l key ((lo + hi) / 2 - lo) lo ((lo + hi) / 2) = R := by
  obtain ⟨m, hm⟩ : ∃ m, hi - lo = m + 1 := ⟨hi - lo - 1, by omega⟩
  rw [hm, kv_Set.bs, if_pos hlt, if_neg hc] at h
  rw [← h]
  exact kv_Set.bs_enough l key _ _ _ _ (Nat.le_refl _) (by omega)
theorem kv_Set.bs_le (l : List S47) (key : ByteArray) : ∀ (f lo hi : Nat), lo ≤ hi → kv_Set.bs l key f lo hi ≤ hi
  | 0, lo, hi, h => h
  | f + 1, lo, hi, h => by
    by_cases hlt : lo < hi
    · rw [kv_Set.bs, if_pos hlt]
      split
      · exact kv_Set.bs_le l key f _ _ (by omega)
      · exact Nat.le_trans (kv_Set.bs_le l key f lo ((lo + hi) / 2) (by omega)) (by omega)
    · rw [kv_Set.bs_stop l key _ lo hi (by omega)]
      exact h
def kv_Set.pos (l : List S47) (key : ByteArray) : Nat := kv_Set.bs l key l.length 0 l.length
def kv_Set.is (l : List S47) (key : ByteArray) : Bool := decide (kv_Set.pos l key < l.length ∧ kv_Set.cmp l key (kv_Set.pos l key) = 0)
theorem kv_Set.pos_le (l : List S47) (key : ByteArray) : kv_Set.pos l key ≤ l.length := kv_Set.bs_le l key _ _ _ (Nat.zero_le _)
set_option maxRecDepth 100000 in
theorem kv_Set.cmp80 (x : S47) (key : ByteArray) (W : World) : Calls Try.prog 80 #[.agg #[.string x.f0, .string x.f1], .string key] W fun e w' => e = .returned (.int .i64 (Lib.compareBytes x.f0.data.toList key.data.toList)) ∧ Below W.heap.size W w' := by
  go_enter Try.func80, Try.ntmps80
  go_wp2_with fail
  refine (Try.strings_Compare _ _ _).mono ?_
  rintro e w' ⟨rfl, rfl⟩
  go_wp2_with fail
  go_ret
  exact ⟨rfl, (Below.refl _ _).alloc (Nat.le_refl _) _⟩
set_option maxHeartbeats 4000000 in
set_option maxRecDepth 100000 in
theorem kv_Set.find79 (A : Option Addr) (c : Nat) (l : List S47) (key : ByteArray) (w : World) (hr : Kd.C k47 w A l.length l) (hn : l.length < 4611686018427387904) :
    Calls Try.prog 79 #[.slice A l.length c, .string key, .func (.func 80) #[] #[]] w fun e w' => e = .returned (.tuple #[.int .i64 (kv_Set.pos l key), .bool (kv_Set.is l key)]) ∧ Below w.heap.size w w' := by
  have HR := Aside0.mk hr
  clear hr
  obtain ⟨R, hR⟩ : ∃ R, kv_Set.pos l key = R := ⟨_, rfl⟩
  obtain ⟨F, hF⟩ : ∃ F, kv_Set.is l key = F := ⟨_, rfl⟩
  have HF := Aside0.mk hF
  have H0 := Aside0.mk hR
  rw [hR, hF]
  clear hR hF
  go_enter Try.func79, Try.ntmps79
  go_wp2
  go_loopg [9, 10] l.length (fun kx s9 s10 wr => ∃ lo hi : Nat, s9 = .int .i64 lo ∧ s10 = .int .i64 hi ∧ lo ≤ hi ∧ hi ≤ l.length ∧ hi - lo ≤ kx ∧ Aside0 (kv_Set.bs l key (hi - lo) lo hi = R) ∧ Aside0 (Below w.heap.size w wr))
  case atStart => exact ⟨0, l.length, rfl, rfl, Nat.zero_le _, Nat.le_refl _, by omega, ⟨H0.out⟩, ⟨Below.refl _ _⟩⟩
  case round =>
    obtain ⟨lo, hi, rfl, rfl, hlh, hin, hg, I, HB⟩ := hrel
    by_cases hlt : lo < hi
    · obtain ⟨ad, e0, hx, hx2⟩ := kv_Set.at_ (Kd.C_below HR.out HB.out) ((lo + hi) / 2) (by omega)
      subst e0
      have hcm : kv_Set.cmp l key ((lo + hi) / 2) = Lib.compareBytes (l[(lo + hi) / 2]'(by omega)).f0.data.toList key.data.toList := by
        unfold kv_Set.cmp
        rw [List.getD_eq_getElem?_getD, List.getElem?_eq_getElem (by omega)]
        rfl
      obtain ⟨y, hy⟩ : ∃ y, l[(lo + hi) / 2]'(by omega) = y := ⟨_, rfl⟩
      rw [hy] at hx hx2 hcm
      clear hy
      obtain ⟨cv, hcv⟩ : ∃ cv, Lib.compareBytes y.f0.data.toList key.data.toList = cv := ⟨_, rfl⟩
      have hcall := fun W => kv_Set.cmp80 y key W
      rw [hcv] at hcm hcall
      have HCM := Aside0.mk hcm
      have HCALL := Aside0.mk hcall
      clear hcm hcall hcv
      by_cases hyx : cv < 0
      · go_wp2_with fail
        refine (HCALL.out _).mono ?_
        rintro e w' ⟨rfl, hb⟩
        have HB2 := Aside0.mk (below_step HB.out hb)
        clear hb
        go_wp2_with fail
        go_roundg (hi - ((lo + hi) / 2 + 1))
        case measure => omega
        case rel =>
          exact ⟨(lo + hi) / 2 + 1, hi, by rw [show ((lo : Int) + (hi : Int)) / 2 + 1 = (((lo + hi) / 2 + 1 : Nat) : Int) by omega], rfl, by omega, hin, Nat.le_refl _, ⟨kv_Set.bs_less l key lo hi R hlt (by rw [HCM.out]; exact hyx) I.out⟩, HB2⟩
      · go_wp2_with fail
        refine (HCALL.out _).mono ?_
        rintro e w' ⟨rfl, hb⟩
        have HB2 := Aside0.mk (below_step HB.out hb)
        clear hb
        go_wp2_with fail
        go_roundg ((lo + hi) / 2 - lo)
        case measure => omega
        case rel =>
          exact ⟨lo, (lo + hi) / 2, rfl, by rw [show ((lo : Int) + (hi : Int)) / 2 = (((lo + hi) / 2 : Nat) : Int) by omega], by omega, by omega, Nat.le_refl _, ⟨kv_Set.bs_more l key lo hi R hlt (by rw [HCM.out]; omega) I.out⟩, HB2⟩
    · have hRl : R = lo := by rw [← I.out]; exact kv_Set.bs_stop l key _ lo hi (by omega)
      have hpos := H0.out
      subst hRl
      have hF := HF.out
      unfold kv_Set.is at hF
      rw [hpos] at hF
      have HF2 := Aside0.mk hF
      clear hpos HF hF
      by_cases hn2 : R < l.length
      · obtain ⟨ad, e0, hx, hx2⟩ := kv_Set.at_ (Kd.C_below HR.out HB.out) R hn2
        subst e0
        have hcm : kv_Set.cmp l key R = Lib.compareBytes (l[R]'hn2).f0.data.toList key.data.toList := by
          unfold kv_Set.cmp
          rw [List.getD_eq_getElem?_getD, List.getElem?_eq_getElem hn2]
          rfl
        obtain ⟨y, hy⟩ : ∃ y, l[R]'hn2 = y := ⟨_, rfl⟩
        rw [hy] at hx hx2 hcm
        clear hy
        obtain ⟨cv, hcv⟩ : ∃ cv, Lib.compareBytes y.f0.data.toList key.data.toList = cv := ⟨_, rfl⟩
        have hcall := fun W => kv_Set.cmp80 y key W
        rw [hcv] at hcm hcall
        have HCM := Aside0.mk hcm
        have HCALL := Aside0.mk hcall
        clear hcm hcall hcv
        by_cases hyx : cv = 0
        · subst hyx
          go_wp2_with fail
          refine (HCALL.out _).mono ?_
          rintro e w' ⟨rfl, hb⟩
          have HB2 := Aside0.mk (below_step HB.out hb)
          clear hb
          go_wp2_with fail
          go_ret2
          exact ⟨by rw [← HF2.out, HCM.out]; simp [hn2], HB2.out⟩
        · have hyx1 : (cv == 0) = false := beq_eq_false_iff_ne.2 hyx
          have HYX := Aside0.mk hyx
          clear hyx
          go_wp2_with fail
          refine (HCALL.out _).mono ?_
          rintro e w' ⟨rfl, hb⟩
          have HB2 := Aside0.mk (below_step HB.out hb)
          clear hb
          go_wp2_with fail
          go_ret2
          exact ⟨by rw [← HF2.out, HCM.out]; simp [HYX.out], HB2.out⟩
      · go_wp2_with fail
        go_ret2
        exact ⟨by rw [← HF2.out]; simp [hn2], HB.out⟩
set_option maxRecDepth 100000 in
theorem kv_Set.find59 (A : Option Addr) (c : Nat) (l : List S47) (key : ByteArray) (w : World) (hr : Kd.C k47 w A l.length l) (hn : l.length < 4611686018427387904) :
    Calls Try.prog 59 #[.slice A l.length c, .string key] w fun e w' => e = .returned (.tuple #[.int .i64 (kv_Set.pos l key), .bool (kv_Set.is l key)]) ∧ Below w.heap.size w w' := by
  have HC := Aside0.mk (kv_Set.find79 A c l key w hr hn)
  clear hr hn
  go_enter Try.func59, Try.ntmps59
  go_wp2_with fail
  refine HC.out.mono ?_
  rintro e w' ⟨rfl, hb⟩
  have HB := Aside0.mk hb
  clear hb
  go_wp2_with fail
  go_ret2
  exact ⟨rfl, HB.out⟩
/-! #### slices.Insert of one pair -/
def kv_Set.enc (l : List S47) : List Value := l.flatMap (fun x => [.string x.f0, .string x.f1])
theorem kv_Set.enc_len (l : List S47) : (kv_Set.enc l).length = l.length * 2 := by
  induction l with
  | nil => rfl
  | cons a l ih =>
    rw [kv_Set.enc, List.flatMap_cons, List.length_append, List.length_cons]
    unfold kv_Set.enc at ih
    rw [ih]
    simp
    omega
theorem kv_Set.enc_app (l m : List S47) : kv_Set.enc (l ++ m) = kv_Set.enc l ++ kv_Set.enc m := by simp [kv_Set.enc]
theorem kv_Set.enc_one (l : List S47) : ∀ u ∈ kv_Set.enc l, u.oneCell' = true := by
  intro u hu
  unfold kv_Set.enc at hu
  obtain ⟨x, _, hx⟩ := List.mem_flatMap.1 hu
  simp at hx
  rcases hx with rfl | rfl <;> rfl
theorem kv_Set.enc_take (l : List S47) : ∀ i, (kv_Set.enc l).take (i * 2) = kv_Set.enc (l.take i) := by
  induction l with
  | nil => intro i; simp [kv_Set.enc]
  | cons a l ih =>
    intro i
    cases i with
    | zero => simp [kv_Set.enc]
    | succ i =>
      have := ih i
      unfold kv_Set.enc at this ⊢
      rw [show (i + 1) * 2 = i * 2 + 1 + 1 from by omega]
      simp [this]
theorem kv_Set.enc_drop (l : List S47) : ∀ i, (kv_Set.enc l).drop (i * 2) = kv_Set.enc (l.drop i) := by
  induction l with
  | nil => intro i; simp [kv_Set.enc]
  | cons a l ih =>
    intro i
    cases i with
    | zero => simp [kv_Set.enc]
    | succ i =>
      have := ih i
      unfold kv_Set.enc at this ⊢
      rw [show (i + 1) * 2 = i * 2 + 1 + 1 from by omega]
      simp [this]
theorem kv_Set.vcells {w : World} {vb : Nat} {x y : Value} (h : w.heap[vb]? = some (.cells #[x, y] 47 (0, 0))) : ∀ j u, [x, y][j]? = some u → w.cell? ((⟨vb, 0, none⟩ : Addr).add j) = some u := by
  intro j u hj
  match j, hj with
  | 0, hj => cases hj; simp [World.cell?, h, Addr.add]
  | 1, hj => cases hj; simp [World.cell?, h, Addr.add]
  | j + 2, hj => simp at hj
set_option maxHeartbeats 4000000 in
set_option maxRecDepth 100000 in
theorem kv_Set.insEnd (base : Nat) (v : Value) (l : List S47) (p : S47) (vb vc : Nat) (w : World) (ho : w.ownsRow base 47 2 v l.length (kv_Set.enc l)) (hv : w.heap[vb]? = some (.cells #[.string p.f0, .string p.f1] 47 (0, 0))) (hbase : base ≤ w.heap.size) (hbig : (l.length + 1) * 32 ≤ 140737488355328) :
    Calls Try.prog 60 #[v, .int .i64 l.length, .slice (some ⟨vb, 0, none⟩) 1 vc] w fun e w' => ∃ v', e = .returned v' ∧ w'.ownsRow base 47 2 v' (l.length + 1) (kv_Set.enc (l ++ [p])) ∧ w.grownBy w' v.ownBlock := by
  obtain ⟨i0, hi0, hz0, hzs, hzb⟩ := info_parts info47
  have HV := Aside0.mk (kv_Set.vcells hv)
  have HBA := Aside0.mk hbase
  have HBIG := Aside0.mk hbig
  have he : kv_Set.enc (l ++ [p]) = kv_Set.enc l ++ [.string p.f0, .string p.f1] := by rw [kv_Set.enc_app]; rfl
  have HE := Aside0.mk he
  have HI0 := Aside0.mk hi0
  have HZ0 := Aside0.mk hz0
  have HZS := Aside0.mk hzs
  have HZB := Aside0.mk hzb
  clear he hv hbase hbig hi0 hz0 hzs hzb
  obtain ⟨n, hn⟩ : ∃ n, n = l.length := ⟨_, rfl⟩
  have HN := Aside0.mk hn
  rw [← hn] at ho ⊢
  clear hn
  have HO := Aside0.mk ho
  rcases ho.2 with ⟨rfl, rfl⟩ | ⟨g, cap, cur, rfl, hbg, hg, hnc, hcm, hcz, hx⟩
  · clear ho
    go_enter Try.func60, Try.ntmps60
    go_wp2_with (at_builtin; refine wpList_append_own _ rfl _ _ 37 rfl base 47 i0 _ 2 32 Try.underlying37 HI0.out HZ0.out HZS.out HZB.out rfl (by omega) _ _ _ rfl HO.out ⟨vb, 0, none⟩ 1 vc [.string p.f0, .string p.f1] rfl ?q1 ?q2 ?q3 ?q4 ?q5 ?q6 ?_)
    case q1 => rfl
    case q2 => exact HV.out
    case q3 => intro u hu; simp at hu; rcases hu with rfl | rfl <;> rfl
    case q4 => unfold maxLen; have := HBIG.out; have := HN.out; omega
    case q5 => have := HBIG.out; have := HN.out; omega
    case q6 => exact HBA.out
    intro v' w' h1 h2 h3
    go_wp2
    go_ret
    exact ⟨_, rfl, by rw [HE.out]; exact h1, h2⟩
  · clear hg hcz hx hbg ho
    have hcm2 : cap ≤ 9223372036854775807 := by unfold maxLen at hcm; omega
    clear hcm
    by_cases hc : cap = n
    · subst hc
      go_enter Try.func60, Try.ntmps60
      go_wp2_with (at_builtin; refine wpList_append_own _ rfl _ _ 37 rfl base 47 i0 _ 2 32 Try.underlying37 HI0.out HZ0.out HZS.out HZB.out rfl (by omega) _ _ _ rfl HO.out ⟨vb, 0, none⟩ 1 vc [.string p.f0, .string p.f1] rfl ?q1 ?q2 ?q3 ?q4 ?q5 ?q6 ?_)
      case q1 => rfl
      case q2 => exact HV.out
      case q3 => intro u hu; simp at hu; rcases hu with rfl | rfl <;> rfl
      case q4 => unfold maxLen; have := HBIG.out; have := HN.out; omega
      case q5 => have := HBIG.out; have := HN.out; omega
      case q6 => exact HBA.out
      intro v' w' h1 h2 h3
      go_wp2
      go_ret
      exact ⟨_, rfl, by rw [HE.out]; exact h1, h2⟩
    · go_enter Try.func60, Try.ntmps60
      go_wp2_with (at_builtin; refine wpList_append_own _ rfl _ _ 37 rfl base 47 i0 _ 2 32 Try.underlying37 HI0.out HZ0.out HZS.out HZB.out rfl (by omega) _ _ _ rfl HO.out ⟨vb, 0, none⟩ 1 vc [.string p.f0, .string p.f1] rfl ?q1 ?q2 ?q3 ?q4 ?q5 ?q6 ?_)
      case q1 => rfl
      case q2 => exact HV.out
      case q3 => intro u hu; simp at hu; rcases hu with rfl | rfl <;> rfl
      case q4 => unfold maxLen; have := HBIG.out; have := HN.out; omega
      case q5 => have := HBIG.out; have := HN.out; omega
      case q6 => exact HBA.out
      intro v' w' h1 h2 h3
      go_wp2
      go_ret
      exact ⟨_, rfl, by rw [HE.out]; exact h1, h2⟩
/-! #### copy and append of a make, at elements of two cells -/
theorem kv_Set.run_copy (w : World) (ty : TypeId) (g o dLen dCap : Nat) (a : Addr) (sLen sCap : Nat) (cur : Array Value) (t : TypeId) (cs : List Value)
    (hg : w.heap[g]? = some (.cells cur t (0, 0))) (hn : cs.length = Nat.min sLen dLen * 2)
    (hsrc : ∀ j v, cs[j]? = some v → w.cell? (a.add j) = some v) (hfit : o + cs.length ≤ cur.size) (h1 : ∀ v ∈ cs, v.oneCell' = true) :
    (Builtin.copy_ #[37, 37] ty #[.slice (some ⟨g, o, none⟩) dLen dCap, .slice (some a) sLen sCap]).run Try.prog w =
      .ok (goInt (Nat.min sLen dLen)) (w.setRow g (cur.toList.take o ++ cs ++ cur.toList.drop (o + cs.length)).toArray) := by
  have hl := run_loadCells_list (P := Try.prog) w a cs hsrc
  have hst := run_storeCells_at Try.prog g o t cs 0 cur w hg (by simpa using hfit) h1
  obtain ⟨i0, hi0, hz0, hzs, hzb⟩ := info_parts info47
  rw [hn] at hl
  simp [Builtin.copy_, run_underlying Try.underlying37, Builtin.lenOf, Builtin.firstCells, sizeOf, typeInfo, hi0, hzs, hl, hst]
theorem kv_Set.wp_copy {w : World} {o : Oper} {a : Act} {K : Act → World → Prop} {Q : Exit → Act → World → Prop} (d s : Operand)
    (ho : o.op = .call { callee := .builtin .copy, args := #[d, s], argTypes := #[37, 37] })
    (g off dLen dCap : Nat) (ad : Addr) (sLen sCap : Nat) (hd : a.eval d = .slice (some ⟨g, off, none⟩) dLen dCap) (hs : a.eval s = .slice (some ad) sLen sCap)
    (cur : List Value) (hg : w.heap[g]? = some (.cells cur.toArray 47 (0, 0))) (cs : List Value) (hn : cs.length = Nat.min sLen dLen * 2)
    (hsrc : ∀ j v, cs[j]? = some v → w.cell? (ad.add j) = some v) (hfit : off + cs.length ≤ cur.length) (h1 : ∀ v ∈ cs, v.oneCell' = true)
    (h : ∀ w', w'.heap[g]? = some (.cells (splice cur off cs).toArray 47 (0, 0)) → (∀ B w0, Below B w0 w → B ≤ g → Below B w0 w') → w'.heap.size = w.heap.size → (∀ k, k ≠ g → w'.heap[k]? = w.heap[k]?) → K (a.put o.dst (goInt (Nat.min sLen dLen))) w') :
    o.wp Try.prog a w K Q := by
  have hrun := kv_Set.run_copy w o.type g off dLen dCap ad sLen sCap cur.toArray 47 cs hg hn hsrc (by simpa using hfit) h1
  unfold Oper.wp
  simp [execOp, ho, resolve, invoke, builtin, hd, hs, hrun, Result.andThen]
  refine h _ ?_ (fun B w0 hb hBg => below_setRow hb hBg _) (by simp) (fun k hk => setRow_other w g k _ hk)
  rw [setRow_heap w g cur.toArray _ 47 (0, 0) hg]
  simp [splice]
theorem kv_Set.wpList_copy {w : World} {ops : Array Oper} {rest : List Oper} {o : Oper} {a : Act} {Q : Exit → Act → World → Prop} (hgd : o.guard = none) (d s : Operand)
    (ho : o.op = .call { callee := .builtin .copy, args := #[d, s], argTypes := #[37, 37] })
    (g off dLen dCap : Nat) (ad : Addr) (sLen sCap : Nat) (hd : a.eval d = .slice (some ⟨g, off, none⟩) dLen dCap) (hs : a.eval s = .slice (some ad) sLen sCap)
    (cur : List Value) (hg : w.heap[g]? = some (.cells cur.toArray 47 (0, 0))) (cs : List Value) (hn : cs.length = Nat.min sLen dLen * 2)
    (hsrc : ∀ j v, cs[j]? = some v → w.cell? (ad.add j) = some v) (hfit : off + cs.length ≤ cur.length) (h1 : ∀ v ∈ cs, v.oneCell' = true)
    (h : ∀ w', w'.heap[g]? = some (.cells (splice cur off cs).toArray 47 (0, 0)) → (∀ B w0, Below B w0 w → B ≤ g → Below B w0 w') → w'.heap.size = w.heap.size → (∀ k, k ≠ g → w'.heap[k]? = w.heap[k]?) → wpList Try.prog ops Q rest (a.put o.dst (goInt (Nat.min sLen dLen))) w') :
    wpList Try.prog ops Q (o :: rest) a w :=
  wpList_plain hgd fun _ hK => kv_Set.wp_copy d s ho g off dLen dCap ad sLen sCap hd hs cur hg cs hn hsrc hfit h1 fun w' a1 a2 a3 a4 => hK _ _ (h w' a1 a2 a3 a4)
theorem kv_Set.step_copy {w : World} {ops : Array Oper} {o : Oper} {a : Act} {K : Act → World → Prop} {Q : Exit → Act → World → Prop} {E : Prop} (hgd : o.guard = none) (d s : Operand)
    (ho : o.op = .call { callee := .builtin .copy, args := #[d, s], argTypes := #[37, 37] })
    (g off dLen dCap : Nat) (ad : Addr) (sLen sCap : Nat) (hd : a.eval d = .slice (some ⟨g, off, none⟩) dLen dCap) (hs : a.eval s = .slice (some ad) sLen sCap)
    (cur : List Value) (hg : w.heap[g]? = some (.cells cur.toArray 47 (0, 0))) (cs : List Value) (hn : cs.length = Nat.min sLen dLen * 2)
    (hsrc : ∀ j v, cs[j]? = some v → w.cell? (ad.add j) = some v) (hfit : off + cs.length ≤ cur.length) (h1 : ∀ v ∈ cs, v.oneCell' = true)
    (h : ∀ w', w'.heap[g]? = some (.cells (splice cur off cs).toArray 47 (0, 0)) → (∀ B w0, Below B w0 w → B ≤ g → Below B w0 w') → w'.heap.size = w.heap.size → (∀ k, k ≠ g → w'.heap[k]? = w.heap[k]?) → K (a.put o.dst (goInt (Nat.min sLen dLen))) w') :
    if Region.wanted o (yielded ops a.tmps) = true then Oper.wp Try.prog o a w K Q else E := by
  have hw : Region.wanted o (yielded ops a.tmps) = true := by simp [Region.wanted, hgd]
  rw [if_pos hw]
  exact kv_Set.wp_copy d s ho g off dLen dCap ad sLen sCap hd hs cur hg cs hn hsrc hfit h1 h
theorem kv_Set.zeros (k : Nat) : (Builtin.zeroCells (Value.agg #[.string ⟨#[]⟩, .string ⟨#[]⟩]).cells k).size = k * 2 := by
  simp [Builtin.zeroCells, Value.cells]
set_option maxRecDepth 100000 in
theorem kv_Set.wpList_zeros {w : World} {ops : Array Oper} {rest : List Oper} {o : Oper} {a : Act} {Q : Exit → Act → World → Prop} (hgd : o.guard = none) (d s : Operand)
    (ho : o.op = .call { callee := .builtin .append, args := #[d, s], argTypes := #[37, 3] })
    (g sLen sCap : Nat) (q : Int) (hd : a.eval d = .slice (some ⟨g, 0, none⟩) sLen sCap) (hs : a.eval s = .int .i64 q) (k : Nat) (hq : q = (k : Int)) (olds : List Value) (hl : olds.length = sLen * 2)
    (hc : ∀ j v, olds[j]? = some v → w.cell? ⟨g, j, none⟩ = some v) (h0 : 0 < k) (hg : sCap < sLen + k) (hbig : (sLen + k) * 32 ≤ 140737488355328)
    (h : ∀ w' G Z, sLen + k ≤ G → G ≤ maxLen → w'.heap[w.heap.size]? = some (.cells (olds ++ Z).toArray 47 (0, 0)) → (olds ++ Z).length = G * 2 → (∀ B w0, Below B w0 w → B ≤ w.heap.size → Below B w0 w') → (∀ k, k < w.heap.size → w'.heap[k]? = w.heap[k]?) → w.heap.size < w'.heap.size →
      wpList Try.prog ops Q rest (a.put o.dst (.slice (some ⟨w.heap.size, 0, none⟩) (sLen + k) G)) w') :
    wpList Try.prog ops Q (o :: rest) a w := by
  subst hq
  obtain ⟨i0, hi0, hz0, hzs, hzb⟩ := info_parts info47
  have hold : (Builtin.firstCells i0.size sLen (.slice (some ⟨g, 0, none⟩) sLen sCap)).run Try.prog w.drew = .ok olds.toArray w.drew := by
    rw [hzs]
    refine run_firstCells_some w.drew 2 sLen ⟨g, 0, none⟩ sLen sCap olds hl (fun j v hj => ?_)
    have ha : (⟨g, 0, none⟩ : Addr).add j = ⟨g, j, none⟩ := by unfold Addr.add; split <;> simp_all
    rw [ha]
    exact hc j v hj
  have hrun := Lib.run_append_grow_zeros w 37 3 o.type 47 i0 _ .i64 .i64 Try.underlying37 Try.underlying3 hi0 hz0 (some ⟨g, 0, none⟩) sLen sCap olds hold k h0 (by omega) hg (by omega) (by rw [hzb]; omega) (by rw [hzb]; exact growslice_fits hg hbig)
  have hG1 : sLen + k ≤ grownCap w (sLen + k) sCap 47 := grownCap_ge w _ _ _
  have hG2 : grownCap w (sLen + k) sCap 47 ≤ maxLen := grownCap_le_maxLen w _ _ _ (by unfold maxLen; omega)
  refine wpList_plain hgd fun K hK => ?_
  unfold Oper.wp
  simp [execOp, ho, resolve, invoke, builtin, hd, hs, hrun, Result.andThen]
  refine hK _ _ ?_
  refine h _ _ ((Builtin.zeroCells (Value.agg #[.string ⟨#[]⟩, .string ⟨#[]⟩]).cells k).toList ++ (Builtin.zeroCells (Value.agg #[.string ⟨#[]⟩, .string ⟨#[]⟩]).cells (grownCap w (sLen + k) sCap 47 - (sLen + k))).toList) hG1 hG2 ?_ ?_ (fun B w0 hb hB => hb.drew.alloc hB _) (fun j hj => ?_) (by simp)
  · have := heap_alloc_new w.drew (.cells (olds.toArray ++ (Builtin.zeroCells (Value.agg #[.string ⟨#[]⟩, .string ⟨#[]⟩]).cells k ++ Builtin.zeroCells (Value.agg #[.string ⟨#[]⟩, .string ⟨#[]⟩]).cells (grownCap w (sLen + k) sCap 47 - (sLen + k)))) 47)
    refine this.trans ?_
    congr 2
    apply Array.ext'
    simp
  · rw [List.length_append, List.length_append, hl, Array.length_toList, Array.length_toList, kv_Set.zeros, kv_Set.zeros]
    omega
  · exact heap_alloc_old w.drew _ hj
theorem kv_Set.put_in (a b c z : List Value) (x y : Value) (h : a.length % 1 = 0) (hz : 2 ≤ z.length) : splice (a ++ z) a.length [x, y] = a ++ ([x, y] ++ z.drop 2) := by
  unfold splice
  rw [List.take_left, List.drop_append]
  simp
theorem kv_Set.put_on (a b z : List Value) (hz : b.length ≤ z.length) : splice (a ++ z) a.length b = a ++ (b ++ z.drop b.length) := by
  unfold splice
  rw [List.take_left, List.drop_append]
  simp
theorem kv_Set.own_row {w : World} {base g cap : Nat} {l : List S47} {Z : List Value} (hb : base ≤ g) (h : w.heap[g]? = some (.cells (kv_Set.enc l ++ Z).toArray 47 (0, 0))) (hc : l.length ≤ cap) (hm : cap ≤ maxLen) (hz : (kv_Set.enc l ++ Z).length = cap * 2) :
    w.ownsRow base 47 2 (.slice (some ⟨g, 0, none⟩) l.length cap) l.length (kv_Set.enc l) :=
  ⟨kv_Set.enc_len l, .inr ⟨g, cap, _, rfl, hb, h, hc, hm, by simpa using hz, by simp [kv_Set.enc_len]⟩⟩
theorem kv_Set.cellsOf {w : World} {g : Nat} {xs : List Value} (h : w.heap[g]? = some (.cells xs.toArray 47 (0, 0))) (o : Nat) (ys : List Value) (hy : ys = (xs.drop o).take ys.length) : ∀ j v, ys[j]? = some v → w.cell? ⟨g, o + j, none⟩ = some v := by
  intro j v hj
  have hlt := (List.getElem?_eq_some_iff.1 hj).1
  rw [hy, List.getElem?_take_of_lt hlt, List.getElem?_drop] at hj
  simp [World.cell?, h, hj]
set_option maxHeartbeats 4000000 in
set_option maxRecDepth 100000 in
theorem kv_Set.insGrow (base g : Nat) (l1 l2 : List S47) (p : S47) (vb vc : Nat) (w : World) (hl2 : l2 ≠ []) (hg : w.heap[g]? = some (.cells (kv_Set.enc (l1 ++ l2)).toArray 47 (0, 0))) (hbg : base ≤ g) (hv : w.heap[vb]? = some (.cells #[.string p.f0, .string p.f1] 47 (0, 0))) (hbase : base ≤ w.heap.size) (hbig : ((l1 ++ l2).length + 1) * 32 ≤ 140737488355328) :
    Calls Try.prog 60 #[.slice (some ⟨g, 0, none⟩) (l1 ++ l2).length (l1 ++ l2).length, .int .i64 l1.length, .slice (some ⟨vb, 0, none⟩) 1 vc] w fun e w' => ∃ v', e = .returned v' ∧ w'.ownsRow base 47 2 v' (l1 ++ p :: l2).length (kv_Set.enc (l1 ++ p :: l2)) ∧ ∀ w0, Below base w0 w → Below base w0 w' := by
  have hgw : g < w.heap.size := (Array.getElem?_eq_some_iff.1 hg).1
  have hvw : vb < w.heap.size := (Array.getElem?_eq_some_iff.1 hv).1
  obtain ⟨i, hi⟩ : ∃ i, i = l1.length := ⟨_, rfl⟩
  obtain ⟨n, hn⟩ : ∃ n, n = (l1 ++ l2).length := ⟨_, rfl⟩
  have hin : i < n := by
    have := List.length_pos_iff.2 hl2
    rw [hi, hn, List.length_append]
    omega
  rw [← hn] at hbig
  rw [← hi, ← hn]
  have hl2n : l2.length = n - i := by rw [hn, List.length_append, hi]; omega
  have HI := Aside0.mk hi
  have HN := Aside0.mk hn
  have HL2 := Aside0.mk hl2n
  have HG := Aside0.mk hg
  have HV := Aside0.mk hv
  have HBIG := Aside0.mk hbig
  have HBA := Aside0.mk hbase
  have HGW := Aside0.mk hgw
  have HVW := Aside0.mk hvw
  clear hi hn hl2n hg hv hbig hbase hgw hvw hl2
  have hni : ¬ n = i := by omega
  have hni2 : ((i : Int) == (n : Int)) = false := beq_eq_false_iff_ne.2 (by omega)
  have hb63 : n + 1 ≤ 9223372036854775807 := by have := HBIG.out; omega
  go_enter Try.func60, Try.ntmps60
  go_wp2_with (at_builtin; refine kv_Set.wpList_zeros rfl _ _ rfl g i n _ rfl rfl (n + 1 - i) ?q1 (kv_Set.enc l1) ?q2 ?q3 ?q4 ?q5 ?q6 ?_)
  case q1 => omega
  case q2 => rw [kv_Set.enc_len, HI.out]
  case q3 =>
    have := kv_Set.cellsOf HG.out 0 (kv_Set.enc l1) (by rw [List.drop_zero, kv_Set.enc_app, List.take_left])
    simpa using this
  case q4 => omega
  case q5 => omega
  case q6 => have := HBIG.out; omega
  intro w1 G Z hG1 hG2 hr1 hrl hb1 hk1 hs1
  have hG3 : G ≤ 9223372036854775807 := by unfold maxLen at hG2; omega
  have hik : i + (n + 1 - i) = n + 1 := by omega
  rw [hik] at hG1 ⊢
  have HR1 := Aside0.mk hr1
  have HRL := Aside0.mk hrl
  have HB1 := Aside0.mk hb1
  have HK1 := Aside0.mk hk1
  have HS1 := Aside0.mk hs1
  have HG2 := Aside0.mk hG2
  clear hr1 hrl hb1 hk1 hs1 hG2 hik
  have hGi : ¬ G = i := by omega
  have hGi1 : ¬ G = i + 1 := by omega
  obtain ⟨N, hN⟩ : ∃ N, N = w.heap.size := ⟨_, rfl⟩
  have HNN := Aside0.mk hN
  rw [← hN]
  clear hN
  go_wp2_with ((with_reducible refine gate_builtin (b := .copy) (xs := #[.tmp 43, .tmp 44]) rfl ?_); refine kv_Set.wpList_copy rfl _ _ rfl N (i * 2) (n + 1 - i) (G - i) ⟨vb, 0, none⟩ 1 vc rfl rfl (kv_Set.enc l1 ++ Z) ?q1 [.string p.f0, .string p.f1] ?q2 ?q3 ?q4 ?q5 ?_)
  case q1 => rw [HNN.out]; exact HR1.out
  case q2 => simp only [Nat.min_def]; split <;> simp <;> omega
  case q3 => exact kv_Set.vcells ((HK1.out _ HVW.out).trans HV.out)
  case q4 => rw [List.length_append, HRL.out]; simp; omega
  case q5 => intro u hu; simp at hu; rcases hu with rfl | rfl <;> rfl
  intro w2 hr2 hb2 hs2 hk2
  have hr3 : w2.heap[N]? = some (.cells (kv_Set.enc (l1 ++ [p]) ++ Z.drop 2).toArray 47 (0, 0)) := by
    have h1 := HRL.out
    rw [kv_Set.enc_len, ← HI.out] at h1
    rw [hr2, show i * 2 = (kv_Set.enc l1).length from by rw [kv_Set.enc_len, HI.out], kv_Set.put_on _ _ _ (by simp; omega), kv_Set.enc_app, List.append_assoc]
    rfl
  have HR3 := Aside0.mk hr3
  have HB2 := Aside0.mk hb2
  have HS2 := Aside0.mk hs2
  have HK2 := Aside0.mk hk2
  clear hr2 hr3 hb2 hs2 hk2
  have hio : i + 1 ≤ n + 1 := by omega
  have h1z : (i + 1) * 2 ≤ G * 2 := by omega
  have QN : Aside0 ((kv_Set.enc l2).length = Nat.min (n - i) (n + 1 - (i + 1)) * 2) := ⟨by rw [kv_Set.enc_len, HL2.out]; simp only [Nat.min_def]; split <;> omega⟩
  have QS : Aside0 (∀ j v, (kv_Set.enc l2)[j]? = some v → (w2.drew).cell? ((⟨g, i * 2, none⟩ : Addr).add j) = some v) := ⟨fun j v hj => by
    have hgN : g ≠ N := by have := HGW.out; have := HNN.out; omega
    have hg2 : w2.heap[g]? = some (.cells (kv_Set.enc (l1 ++ l2)).toArray 47 (0, 0)) := (HK2.out g hgN).trans ((HK1.out g HGW.out).trans HG.out)
    have ha : (⟨g, i * 2, none⟩ : Addr).add j = ⟨g, i * 2 + j, none⟩ := by unfold Addr.add; split <;> simp_all
    rw [ha]
    have := kv_Set.cellsOf hg2 (i * 2) (kv_Set.enc l2) (by rw [kv_Set.enc_app, show i * 2 = (kv_Set.enc l1).length from by rw [kv_Set.enc_len, HI.out], List.drop_left, List.take_length]) j v hj
    exact this⟩
  have QF : Aside0 ((i + 1) * 2 + (kv_Set.enc l2).length ≤ (kv_Set.enc (l1 ++ [p]) ++ Z.drop 2).length) := ⟨by
    have h1 := HRL.out
    rw [kv_Set.enc_len, ← HI.out] at h1
    rw [List.length_append, kv_Set.enc_len, kv_Set.enc_len, List.length_append, List.length_drop, HL2.out, ← HI.out, List.length_singleton]
    omega⟩
  clear h1z
  have hb3 : (i : Int) ≤ (n : Int) := by omega
  have hin2 : i ≤ n := by omega
  have hin3 : i + 1 ≤ n + 1 := by omega
  have hb4 : (i : Int) + 1 ≤ (n : Int) + 1 := by omega
  have hw1 : IntKind.i64.wrap ((i : Int) + 1) = (i : Int) + 1 := by rw [IntKind.wrap_i64]; omega
  have hb1 : (0 : Int) ≤ (i : Int) + 1 := by omega
  have htn : ((i : Int) + 1).toNat = i + 1 := by omega
  go_wp2
  go_region_law ((refine kv_Set.step_copy rfl _ _ rfl N ((i + 1) * 2) (n + 1 - (i + 1)) (G - (i + 1)) ⟨g, i * 2, none⟩ (n - i) (n - i) (by simp [Act.eval, Act.put]) (by simp [Act.eval, Act.put]) _ HR3.out (kv_Set.enc l2) QN.out QS.out QF.out (kv_Set.enc_one l2) ?_; intro w3 hr4 hb3 hs3 hk3))
  have hlen : (kv_Set.enc (l1 ++ [p]) ++ Z.drop 2).length = G * 2 := by
    have h1 := HRL.out
    rw [kv_Set.enc_len, ← HI.out] at h1
    rw [List.length_append, kv_Set.enc_len, List.length_append, List.length_drop, ← HI.out, List.length_singleton]
    omega
  have hrow : splice (kv_Set.enc (l1 ++ [p]) ++ Z.drop 2) ((i + 1) * 2) (kv_Set.enc l2) = kv_Set.enc (l1 ++ p :: l2) ++ (Z.drop 2).drop (kv_Set.enc l2).length := by
    have h1 := QF.out
    rw [List.length_append, kv_Set.enc_len (l1 ++ [p]), List.length_append, ← HI.out, List.length_singleton] at h1
    rw [show (i + 1) * 2 = (kv_Set.enc (l1 ++ [p])).length from by rw [kv_Set.enc_len, List.length_append, ← HI.out, List.length_singleton], kv_Set.put_on _ _ _ (by omega), show l1 ++ p :: l2 = l1 ++ [p] ++ l2 from by simp, kv_Set.enc_app (l1 ++ [p]) l2, List.append_assoc]
  have hlen2 : (l1 ++ p :: l2).length = n + 1 := by rw [List.length_append, List.length_cons, HL2.out, ← HI.out]; omega
  have hfin : w3.ownsRow base 47 2 (.slice (some ⟨N, 0, none⟩) (n + 1) G) (l1 ++ p :: l2).length (kv_Set.enc (l1 ++ p :: l2)) := by
    have hb : base ≤ N := by rw [HNN.out]; exact HBA.out
    have := kv_Set.own_row (w := w3) (base := base) (g := N) (cap := G) (l := l1 ++ p :: l2) (Z := (Z.drop 2).drop (kv_Set.enc l2).length) hb (by rw [← hrow]; exact hr4) (by rw [hlen2]; exact hG1) HG2.out (by rw [← hrow, length_splice _ _ _ (QF.out), hlen])
    rw [hlen2] at this ⊢
    exact this
  have hbel : ∀ w0, Below base w0 w → Below base w0 w3 := fun w0 h => by
    have hb : base ≤ N := by rw [HNN.out]; exact HBA.out
    exact hb3 _ _ (HB2.out _ _ (HB1.out _ _ h HBA.out) hb).drew hb
  have HFIN := Aside0.mk hfin
  have HBEL := Aside0.mk hbel
  clear hlen hrow hlen2 hfin hbel hr4 hb3 hs3 hk3
  go_wp2
  go_ret
  exact ⟨_, rfl, HFIN.out, HBEL.out⟩
set_option maxHeartbeats 4000000 in
set_option maxRecDepth 100000 in
theorem kv_Set.insShift (base g cap : Nat) (l1 l2 : List S47) (y p : S47) (Z : List Value) (vb vc : Nat) (w : World) (hg : w.heap[g]? = some (.cells (kv_Set.enc (l1 ++ y :: l2) ++ Z).toArray 47 (0, 0))) (hz : (kv_Set.enc (l1 ++ y :: l2) ++ Z).length = cap * 2) (hroom : (l1 ++ y :: l2).length + 1 ≤ cap) (hcm : cap ≤ maxLen) (hbg : base ≤ g) (hvb : vb ≠ g) (hv : w.heap[vb]? = some (.cells #[.string p.f0, .string p.f1] 47 (0, 0))) :
    Calls Try.prog 60 #[.slice (some ⟨g, 0, none⟩) (l1 ++ y :: l2).length cap, .int .i64 l1.length, .slice (some ⟨vb, 0, none⟩) 1 vc] w fun e w' => ∃ v', e = .returned v' ∧ w'.ownsRow base 47 2 v' (l1 ++ p :: y :: l2).length (kv_Set.enc (l1 ++ p :: y :: l2)) ∧ ∀ w0, Below base w0 w → Below base w0 w' := by
  have hgw : g < w.heap.size := (Array.getElem?_eq_some_iff.1 hg).1
  have hcap : 0 < cap := by omega
  have hov : ∀ lb cb off, (callFunc 82 #[.slice (some ⟨vb, 0, none⟩) 1 vc, .slice (some ⟨g, off, none⟩) lb cb]).run Try.prog w = .ok (.value (.bool false)) w := fun lb cb off => by
    rw [run_callFunc_extern Try.func82 (by kernel_rfl) (by kernel_rfl) (by kernel_rfl) (e := Extern.SlicesOverlaps.overlaps #[37, 37] #[4]) (by kernel_rfl),
      Lib.run_overlaps_apart w 37 4 47 Try.underlying37 2 Try.sizeOf47 ⟨vb, 0, none⟩ ⟨g, off, none⟩ 1 vc lb cb hvb 47 47 2 (cap * 2) (by simp [World.shape?, hv]) (by unfold World.shape?; rw [hg]; simp only [List.size_toArray, hz]) (by omega) (by simp [World.frozen?, hv]) (by simp [World.frozen?, hv])]
    rfl
  obtain ⟨i, hi⟩ : ∃ i, i = l1.length := ⟨_, rfl⟩
  obtain ⟨n, hn⟩ : ∃ n, n = (l1 ++ y :: l2).length := ⟨_, rfl⟩
  have hl2n : l2.length + 1 = n - i := by rw [hn, List.length_append, List.length_cons, hi]; omega
  have hin : i < n := by omega
  rw [← hn] at hroom
  rw [← hi, ← hn]
  have HI := Aside0.mk hi
  have HN := Aside0.mk hn
  have HL2 := Aside0.mk hl2n
  have HG := Aside0.mk hg
  have HZ := Aside0.mk hz
  have HV := Aside0.mk hv
  have HGW := Aside0.mk hgw
  have HVB := Aside0.mk hvb
  have HCM := Aside0.mk hcm
  have hc63 : cap ≤ 9223372036854775807 := by unfold maxLen at hcm; omega
  clear hi hn hl2n hg hz hv hgw hvb hcm hcap
  have hni2 : ((i : Int) == (n : Int)) = false := beq_eq_false_iff_ne.2 (by omega)
  have QN : Aside0 ((kv_Set.enc (y :: l2)).length = Nat.min (n + 1 - i) (n + 1 - (i + 1)) * 2) := ⟨by rw [kv_Set.enc_len, List.length_cons, HL2.out]; simp only [Nat.min_def]; split <;> omega⟩
  have QS : Aside0 (∀ j v, (kv_Set.enc (y :: l2))[j]? = some v → (w.drew).cell? ((⟨g, i * 2, none⟩ : Addr).add j) = some v) := ⟨fun j v hj => by
    have ha : (⟨g, i * 2, none⟩ : Addr).add j = ⟨g, i * 2 + j, none⟩ := by unfold Addr.add; split <;> simp_all
    rw [ha]
    exact kv_Set.cellsOf HG.out (i * 2) (kv_Set.enc (y :: l2)) (by rw [kv_Set.enc_app, List.append_assoc, show i * 2 = (kv_Set.enc l1).length from by rw [kv_Set.enc_len, HI.out], List.drop_left, List.take_left]) j v hj⟩
  have QF : Aside0 ((i + 1) * 2 + (kv_Set.enc (y :: l2)).length ≤ (kv_Set.enc (l1 ++ y :: l2) ++ Z).length) := ⟨by
    rw [HZ.out, kv_Set.enc_len, List.length_cons, HL2.out]
    omega⟩
  have hrowA : splice (kv_Set.enc (l1 ++ y :: l2) ++ Z) ((i + 1) * 2) (kv_Set.enc (y :: l2)) = kv_Set.enc l1 ++ (kv_Set.enc [y] ++ (kv_Set.enc (y :: l2) ++ (kv_Set.enc l2 ++ Z).drop (kv_Set.enc (y :: l2)).length)) := by
    have h1 := QF.out
    rw [show l1 ++ y :: l2 = l1 ++ [y] ++ l2 from by simp, kv_Set.enc_app (l1 ++ [y]) l2, List.append_assoc] at h1 ⊢
    rw [show (i + 1) * 2 = (kv_Set.enc (l1 ++ [y])).length from by rw [kv_Set.enc_len, List.length_append, ← HI.out, List.length_singleton]] at h1 ⊢
    rw [kv_Set.put_on _ _ _ (by rw [List.length_append] at h1; omega), kv_Set.enc_app l1 [y], List.append_assoc]
  obtain ⟨RA, hRA⟩ : ∃ RA, RA = kv_Set.enc l1 ++ (kv_Set.enc [y] ++ (kv_Set.enc (y :: l2) ++ (kv_Set.enc l2 ++ Z).drop (kv_Set.enc (y :: l2)).length)) := ⟨_, rfl⟩
  rw [← hRA] at hrowA
  have HROWA := Aside0.mk hrowA
  have HRA := Aside0.mk hRA
  clear hrowA hRA
  have hb3 : (i : Int) ≤ (n : Int) := by omega
  have hin2 : i ≤ n := by omega
  have hin3 : i + 1 ≤ n + 1 := by omega
  have hin4 : i ≤ n + 1 := by omega
  have hb4 : (i : Int) + 1 ≤ (n : Int) + 1 := by omega
  have hb5 : (i : Int) ≤ (n : Int) + 1 := by omega
  have hci : ¬ cap = i := by omega
  have hci1 : ¬ cap = i + 1 := by omega
  have hcn : n ≤ cap := by omega
  have hw1 : IntKind.i64.wrap ((i : Int) + 1) = (i : Int) + 1 := by rw [IntKind.wrap_i64]; omega
  have hb1 : (0 : Int) ≤ (i : Int) + 1 := by omega
  have htn : ((i : Int) + 1).toNat = i + 1 := by omega
  go_enter Try.func60, Try.ntmps60
  go_wp2_with (simp only [hov])
  go_region_law ((refine kv_Set.step_copy rfl _ _ rfl g ((i + 1) * 2) (n + 1 - (i + 1)) (cap - (i + 1)) ⟨g, i * 2, none⟩ (n + 1 - i) (cap - i) (by simp [Act.eval, Act.put]) (by simp [Act.eval, Act.put]) _ HG.out (kv_Set.enc (y :: l2)) QN.out QS.out QF.out (kv_Set.enc_one (y :: l2)) ?_; intro w1 hr1 hbl1 hs1 hk1))
  rw [HROWA.out] at hr1
  have HR1 := Aside0.mk hr1
  have HB1 := Aside0.mk hbl1
  have HV1 := Aside0.mk (kv_Set.vcells ((hk1 vb HVB.out).trans HV.out))
  have hRAl : RA.length = cap * 2 := by
    have h1 := length_splice _ _ _ QF.out
    rw [HROWA.out, HZ.out] at h1
    exact h1
  have HRAL := Aside0.mk hRAl
  clear hr1 hbl1 hs1 hk1 hRAl
  go_wp2_with ((with_reducible refine gate_builtin (b := .copy) (xs := #[.tmp 80, .tmp 81]) rfl ?_); refine kv_Set.wpList_copy rfl _ _ rfl g (i * 2) (n + 1 - i) (cap - i) ⟨vb, 0, none⟩ 1 vc rfl rfl RA ?q1 [.string p.f0, .string p.f1] ?q2 ?q3 ?q4 ?q5 ?_)
  case q1 => exact HR1.out
  case q2 => simp only [Nat.min_def]; split <;> simp <;> omega
  case q3 => exact HV1.out
  case q4 => rw [HRAL.out]; simp; omega
  case q5 => intro u hu; simp at hu; rcases hu with rfl | rfl <;> rfl
  intro w2 hr2 hb2 hs2 hk2
  have hrow : splice RA (i * 2) [.string p.f0, .string p.f1] = kv_Set.enc (l1 ++ p :: y :: l2) ++ (kv_Set.enc l2 ++ Z).drop (kv_Set.enc (y :: l2)).length := by
    rw [HRA.out, show i * 2 = (kv_Set.enc l1).length from by rw [kv_Set.enc_len, HI.out], kv_Set.put_on _ _ _ (by simp [kv_Set.enc]), kv_Set.enc_app, List.append_assoc]
    rfl
  have hlen2 : (l1 ++ p :: y :: l2).length = n + 1 := by rw [HN.out]; simp only [List.length_append, List.length_cons]; omega
  have hfin : w2.ownsRow base 47 2 (.slice (some ⟨g, 0, none⟩) (n + 1) cap) (l1 ++ p :: y :: l2).length (kv_Set.enc (l1 ++ p :: y :: l2)) := by
    have := kv_Set.own_row (w := w2) (base := base) (g := g) (cap := cap) (l := l1 ++ p :: y :: l2) (Z := (kv_Set.enc l2 ++ Z).drop (kv_Set.enc (y :: l2)).length) hbg (by rw [← hrow]; exact hr2) (by rw [hlen2]; exact hroom) HCM.out (by rw [← hrow, length_splice _ _ _ (by rw [HRAL.out]; simp; omega), HRAL.out])
    rw [hlen2] at this ⊢
    exact this
  have HFIN := Aside0.mk hfin
  have HBEL : Aside0 (∀ w0, Below base w0 w → Below base w0 w2) := ⟨fun w0 h => hb2 _ _ (HB1.out _ _ h.drew hbg) hbg⟩
  clear hrow hlen2 hfin hr2 hb2 hs2 hk2
  go_wp2
  go_ret
  exact ⟨_, rfl, HFIN.out, HBEL.out⟩
theorem kv_Set.insert (base : Nat) (v : Value) (l : List S47) (i : Nat) (hi : i ≤ l.length) (p : S47) (vb vc : Nat) (w : World) (ho : w.ownsRow base 47 2 v l.length (kv_Set.enc l)) (hv : w.heap[vb]? = some (.cells #[.string p.f0, .string p.f1] 47 (0, 0))) (hvne : v.ownBlock ≠ some vb) (hbase : base ≤ w.heap.size) (hbig : (l.length + 1) * 32 ≤ 140737488355328) :
    Calls Try.prog 60 #[v, .int .i64 i, .slice (some ⟨vb, 0, none⟩) 1 vc] w fun e w' => ∃ v', e = .returned v' ∧ w'.ownsRow base 47 2 v' (l.take i ++ p :: l.drop i).length (kv_Set.enc (l.take i ++ p :: l.drop i)) ∧ ∀ w0, Below base w0 w → Below base w0 w' := by
  by_cases hil : i = l.length
  · subst hil
    refine (kv_Set.insEnd base v l p vb vc w ho hv hbase hbig).mono fun e w' ⟨v', he, h1, h2⟩ => ⟨v', he, ?_, fun w0 h => h.grown h2 hbase (fun k hk => own_base ho k hk)⟩
    rw [List.take_length, List.drop_length, List.length_append, List.length_singleton]
    exact h1
  · have hlt : i < l.length := by omega
    have hsp : l.take i ++ l.drop i = l := List.take_append_drop i l
    have hlen : (l.take i).length = i := by rw [List.length_take]; omega
    rcases ho.2 with ⟨_, h0⟩ | ⟨g, cap, cur, rfl, hbg, hg, hnc, hcm, hcz, hx⟩
    · omega
    · have hcur : cur = (kv_Set.enc l ++ cur.toList.drop (l.length * 2)).toArray := by
        apply Array.ext'
        rw [← hx]
        simp
      by_cases hc : cap = l.length
      · subst hc
        have hd : cur.toList.drop (l.length * 2) = [] := List.drop_eq_nil_of_le (by simp; omega)
        rw [hd, List.append_nil] at hcur
        have hg2 : w.heap[g]? = some (.cells (kv_Set.enc (l.take i ++ l.drop i)).toArray 47 (0, 0)) := by rw [hsp, ← hcur]; exact hg
        have h := kv_Set.insGrow base g (l.take i) (l.drop i) p vb vc w (fun e => by have := congrArg List.length e; rw [List.length_drop, List.length_nil] at this; omega) hg2 hbg hv hbase (by rw [hsp]; exact hbig)
        rw [hsp, hlen] at h
        exact h
      · obtain ⟨y, l2, hd⟩ : ∃ y l2, l.drop i = y :: l2 := ⟨_, _, List.drop_eq_getElem_cons hlt⟩
        have hg2 : w.heap[g]? = some (.cells (kv_Set.enc (l.take i ++ y :: l2) ++ cur.toList.drop (l.length * 2)).toArray 47 (0, 0)) := by rw [← hd, hsp, ← hcur]; exact hg
        have h := kv_Set.insShift base g cap (l.take i) l2 y p (cur.toList.drop (l.length * 2)) vb vc w hg2 ?_ ?_ hcm hbg (fun e => hvne (by rw [e]; rfl)) hv
        · rw [← hd, hsp, hlen] at h
          rw [hd] at h ⊢
          exact h
        · have := congrArg (fun x : Array Value => x.size) hcur
          simp only [List.size_toArray] at this
          rw [← hd, hsp, ← this]
          exact hcz
        · rw [← hd, hsp]
          omega
/-! #### kv.Set -/
def kv_Set.next (out : List S47) (p : S47) : List S47 := if kv_Set.is out p.f0 = true then out.set (kv_Set.pos out p.f0) p else out.take (kv_Set.pos out p.f0) ++ p :: out.drop (kv_Set.pos out p.f0)
def kv_Set.go (out : List S47) : List S47 → Option (List S47 × Int)
  | [] => some (out, 0)
  | p :: ps => (kv_Check.f p.f0 p.f1).bind fun e => if e = 0 then kv_Set.go (kv_Set.next out p) ps else some ([], e)
def kv_Set.g (l0 l1 : List S47) (t : Bool) : Option (List S47 × Int) := if t = true then (if (l0.length + l1.length) * 32 ≤ 140737488355328 then kv_Set.go l0 l1 else none) else some ([], 6)
def kv_Set.f (k : Nat) (l0 l1 : List S47) : Option (List S47 × Int) := (kv_right.f k l0).bind fun t => kv_Set.g l0 l1 t
theorem kv_Set.mono : ∀ l0 l1 k, LeO (kv_Set.f k l0 l1) (kv_Set.f (k + 1) l0 l1) := fun l0 l1 k => LeO.bind (kv_right.mono _ _) (fun _ => LeO.refl _)
theorem kv_Set.next_len (out : List S47) (p : S47) : (kv_Set.next out p).length ≤ out.length + 1 := by
  have h := kv_Set.pos_le out p.f0
  unfold kv_Set.next
  split
  · rw [List.length_set]; omega
  · rw [List.length_append, List.length_cons, List.length_take, List.length_drop]; omega
theorem kv_Set.own_below {w w1 : World} {base : Nat} {v : Value} {n : Nat} {xs : List Value} (h : w.ownsRow base 47 2 v n xs) (hb : Below w.heap.size w w1) : w1.ownsRow base 47 2 v n xs :=
  own_move h (fun k hk => hb.block k (own_lt h k hk))
theorem kv_Set.ofR {w : World} {base : Nat} {ok : Nat → Prop} {v : Value} {l : List S47} (h : Kd.R k47 47 w base ok v l) : w.ownsRow base 47 2 v l.length (kv_Set.enc l) := by
  obtain ⟨_, inner, ho, hr⟩ := h
  have : inner = kv_Set.enc l := by
    clear ho
    induction l generalizing inner with
    | nil => exact List.length_eq_zero_iff.1 (by have := hr.1; simpa using this)
    | cons a l ih =>
      have h0 := k47_openM (hr.2 0 a rfl)
      have hl := hr.1
      have hrest : Reps (k47.M w base (fun k => ok k ∧ some k ≠ v.ownBlock)) 2 l (inner.drop 2) := by
        refine ⟨by rw [List.length_drop, hl, List.length_cons]; show (l.length + 1) * 2 - 2 = _; omega, fun j p hj => ?_⟩
        have := hr.2 (j + 1) p (by simpa using hj)
        rw [List.drop_drop, show 2 + j * 2 = (j + 1) * 2 from by omega]
        exact this
      have h1 := ih _ hrest
      have h2 : inner.take 2 = [.string a.f0, .string a.f1] := by
        have := h0
        rw [Nat.zero_mul, List.drop_zero] at this
        exact this
      rw [← List.take_append_drop 2 inner, h2, h1]
      rfl
  rw [← this]
  exact ho
theorem kv_Set.toR {w : World} {base : Nat} {v : Value} {l : List S47} (h : w.ownsRow base 47 2 v l.length (kv_Set.enc l)) : Kd.R k47 47 w base (fun _ => True) v l := by
  refine ⟨fun _ _ => trivial, kv_Set.enc l, h, kv_Set.enc_len l, fun j p hj => ?_⟩
  have hlt := (List.getElem?_eq_some_iff.1 hj).1
  have : ((kv_Set.enc l).drop (j * 2)).take 2 = [.string p.f0, .string p.f1] := by
    rw [kv_Set.enc_drop, List.drop_eq_getElem_cons hlt]
    rw [List.getElem?_eq_getElem hlt] at hj
    cases hj
    rfl
  show k47.M w base _ p (((kv_Set.enc l).drop (j * 2)).take 2)
  rw [this]
  exact k47_mkM _ _ _ _
theorem kv_Set.reads {w : World} {base : Nat} {v : Value} {l : List S47} (h : w.ownsRow base 47 2 v l.length (kv_Set.enc l)) : ∃ A c, v = .slice A l.length c ∧ l.length ≤ c ∧ Kd.C k47 w A l.length l := by
  have h1 := kv_Set.toR h
  obtain ⟨A, c, e, hc, hr⟩ := OwnRow.reads h1.2
  exact ⟨A, c, e, hc, ReadsRow.imp_ hr (Below.refl _ _) (fun _ _ hp => k47.K_of_M hp)⟩
theorem kv_Set.store {w : World} {base g cap : Nat} {l : List S47} (h : w.ownsRow base 47 2 (.slice (some ⟨g, 0, none⟩) l.length cap) l.length (kv_Set.enc l)) (i : Nat) (hi : i < l.length) (p : S47) :
    ((w.setCell ⟨g, i * 2, none⟩ (.string p.f0)).setCell ⟨g, i * 2 + 1, none⟩ (.string p.f1)).ownsRow base 47 2 (.slice (some ⟨g, 0, none⟩) l.length cap) l.length (kv_Set.enc (l.set i p)) := by
  rcases h.2 with ⟨h0, _⟩ | ⟨g', cap', cur, e, hbg, hg, hnc, hcm, hcz, hx⟩
  · cases h0
  · cases e
    have h1 := setCell_eq_setRow w g (i * 2) cur 47 (0, 0) (.string p.f0) hg
    have hg1 : (w.setCell ⟨g, i * 2, none⟩ (.string p.f0)).heap[g]? = some (.cells (cur.setIfInBounds (i * 2) (.string p.f0)) 47 (0, 0)) := by rw [h1]; exact setRow_heap w g cur _ 47 (0, 0) hg
    have h2 := setCell_eq_setRow (w.setCell ⟨g, i * 2, none⟩ (.string p.f0)) g (i * 2 + 1) _ 47 (0, 0) (.string p.f1) hg1
    have hg2 : ((w.setCell ⟨g, i * 2, none⟩ (.string p.f0)).setCell ⟨g, i * 2 + 1, none⟩ (.string p.f1)).heap[g]? = some (.cells ((cur.setIfInBounds (i * 2) (.string p.f0)).setIfInBounds (i * 2 + 1) (.string p.f1)) 47 (0, 0)) := by rw [h2]; exact setRow_heap _ g _ _ 47 (0, 0) hg1
    refine ⟨by rw [kv_Set.enc_len, List.length_set], .inr ⟨g, cap, _, rfl, hbg, hg2, hnc, hcm, by simpa using hcz, ?_⟩⟩
    have hs : kv_Set.enc (l.set i p) = ((kv_Set.enc l).set (i * 2) (.string p.f0)).set (i * 2 + 1) (.string p.f1) := by
      clear hg2 h2 hg1 h1 hx hcz hg hcm hnc hbg h
      induction l generalizing i with
      | nil => simp at hi
      | cons a l ih =>
        cases i with
        | zero => simp [kv_Set.enc]
        | succ i =>
          have := ih i (by simpa using hi)
          unfold kv_Set.enc at this ⊢
          rw [show (i + 1) * 2 = i * 2 + 1 + 1 from by omega]
          simp [this]
    rw [hs, ← hx]
    simp [List.take_set]
theorem kv_Set.cellsAt {w : World} {base g cap : Nat} {l : List S47} (h : w.ownsRow base 47 2 (.slice (some ⟨g, 0, none⟩) l.length cap) l.length (kv_Set.enc l)) (i : Nat) (hi : i < l.length) :
    (∃ u, w.cell? ⟨g, i * 2, none⟩ = some u) ∧ (∃ u, w.cell? ⟨g, i * 2 + 1, none⟩ = some u) ∧ w.frozen? ⟨g, i * 2, none⟩ = false ∧ w.frozen? ⟨g, i * 2 + 1, none⟩ = false ∧ base ≤ g := by
  rcases h.2 with ⟨h0, _⟩ | ⟨g', cap', cur, e, hbg, hg, hnc, hcm, hcz, hx⟩
  · cases h0
  · cases e
    have h1 : i * 2 < cur.size := by omega
    have h2 : i * 2 + 1 < cur.size := by omega
    exact ⟨⟨cur[i * 2], by simp [World.cell?, hg, h1]⟩, ⟨cur[i * 2 + 1], by simp [World.cell?, hg, h2]⟩, by simp [World.frozen?, hg], by simp [World.frozen?, hg], hbg⟩
set_option maxHeartbeats 8000000 in
set_option maxRecDepth 100000 in
theorem kv_Set.calls (k : Nat) (A0 : Option Addr) (c0 : Nat) (l0 : List S47) (A1 : Option Addr) (c1 : Nat) (l1 : List S47) (r1 : List S47) (r2 : Int) (w : World) (hr0 : Kd.C k47 w A0 l0.length l0) (hc0 : l0.length ≤ c0) (hr1 : Kd.C k47 w A1 l1.length l1) (hc1 : l1.length ≤ c1) (h : kv_Set.f k l0 l1 = some (r1, r2)) :
    Calls Try.prog 32 #[.slice A0 l0.length c0, .slice A1 l1.length c1] w fun e w' => ∃ v0_ : Value, e = .returned (.tuple #[v0_, .int .i64 r2]) ∧ Kd.R k47 47 w' w.heap.size (fun _ => True) v0_ r1 ∧ Below w.heap.size w w' := by
  unfold kv_Set.f at h
  obtain ⟨t, ht, h⟩ := Option.bind_eq_some_iff.1 h
  have HC := Aside0.mk (kv_right.calls k A0 c0 l0 t w hr0 hc0 ht)
  have HC0 := Aside0.mk hc0
  have HR0 := Aside0.mk hr0
  have HR1 := Aside0.mk hr1
  have hn1 := hr1.2.1
  clear ht hc0 hr0 hr1 hc1
  unfold kv_Set.g at h
  cases t with
  | false =>
    cases h
    clear hn1
    go_enter Try.func32, Try.ntmps32
    go_wp2_with fail
    refine HC.out.mono ?_
    rintro e w' ⟨rfl, hb⟩
    have HB := Aside0.mk hb
    clear hb
    go_wp2_with fail
    go_ret2
    exact ⟨_, rfl, Kd.R_nil _ _ _ _ _, HB.out⟩
  | true =>
    rw [if_pos rfl] at h
    by_cases hs : (l0.length + l1.length) * 32 ≤ 140737488355328
    · rw [if_pos hs] at h
      have HS := Aside0.mk hs
      have HH := Aside0.mk h
      clear hs h
      go_enter Try.func32, Try.ntmps32
      go_wp2_with fail
      refine HC.out.mono ?_
      rintro e w1 ⟨rfl, hb⟩
      have HB1 := Aside0.mk hb
      clear hb HC
      have HCL := Aside0.mk (api_Pair.calls A0 c0 l0 l0 w1 (Kd.C_below HR0.out HB1.out) HC0.out (by unfold api_Pair.f; rw [if_pos (by have := HS.out; omega)]))
      go_wp2_with fail
      refine HCL.out.mono ?_
      rintro e w2 ⟨v0, rfl, ho, hb⟩
      have HB2 := Aside0.mk (below_step HB1.out hb)
      have HO := Aside0.mk (own_less (kv_Set.ofR ho) HB1.out.size)
      clear hb ho HCL
      go_wp2_with fail
      go_loopw [6, 19] (fun v6 iv wr => ∃ (j : Nat) (out : List S47), iv = .int .i64 j ∧ j ≤ l1.length ∧ Aside0 (kv_Set.go out (l1.drop j) = some (r1, r2)) ∧ Aside0 (out.length ≤ l0.length + j) ∧ Aside0 (wr.ownsRow w.heap.size 47 2 v6 out.length (kv_Set.enc out)) ∧ Aside0 (Below w.heap.size w wr)) (fun _ iv _ => l1.length - (intOf iv).toNat)
      case atStart => exact ⟨0, l0, rfl, Nat.zero_le _, ⟨HH.out⟩, ⟨Nat.le_refl _⟩, HO, HB2⟩
      case round =>
        clear HO HB2
        obtain ⟨j, out, rfl, hj, HGO, HLE, HOW, HB⟩ := hrel
        by_cases hlt : j < l1.length
        · obtain ⟨ad, e0, hx, hx2⟩ := kv_Set.at_ (Kd.C_below HR1.out HB.out) j hlt
          subst e0
          have hgo := HGO.out
          rw [List.drop_eq_getElem_cons hlt] at hgo
          obtain ⟨p, hp⟩ : ∃ p, l1[j] = p := ⟨_, rfl⟩
          rw [hp] at hx hx2 hgo
          clear hp
          obtain ⟨A6, c6, e6, hc6, _⟩ := kv_Set.reads HOW.out
          subst e6
          unfold kv_Set.go at hgo
          obtain ⟨ec, hec, hgo⟩ := Option.bind_eq_some_iff.1 hgo
          have HCK := Aside0.mk (kv_Check.calls p.f0 p.f1 ec (wr.alloc (.cells #[.string p.f0, .string p.f1] 47)) hec)
          have HGO2 := Aside0.mk hgo
          clear hgo hec
          go_wp2_with fail
          refine HCK.out.mono ?_
          rintro e w3 ⟨rfl, hb⟩
          have hN0 : w3.cell? ⟨wr.heap.size, 0, none⟩ = some (.string p.f0) := (hb.cell (p := ⟨wr.heap.size, 0, none⟩) (by simp)).trans (by simp)
          have hN1 : w3.cell? ⟨wr.heap.size, 1, none⟩ = some (.string p.f1) := (hb.cell (p := ⟨wr.heap.size, 1, none⟩) (by simp)).trans (by simp)
          have HOW3 := Aside0.mk (kv_Set.own_below (HOW.out.alloc (.cells #[.string p.f0, .string p.f1] 47)) hb)
          have HB3 := Aside0.mk (below_step (below_alloc HB.out _) hb)
          have HSZ3 := Aside0.mk hb.size
          clear hb HCK HOW HB hx hx2
          by_cases he : ec = 0
          · subst he
            have hgo := HGO2.out
            rw [if_pos rfl] at hgo
            have HGO3 := Aside0.mk hgo
            clear hgo HGO2
            have HF59 := Aside0.mk (kv_Set.find59 A6 c6 out p.f0 w3 (by obtain ⟨A, c, e, _, hr⟩ := kv_Set.reads HOW3.out; cases e; exact hr) (by have := HLE.out; have := HS.out; omega))
            by_cases hF : kv_Set.is out p.f0 = true
            · have hpos : kv_Set.pos out p.f0 < out.length := (of_decide_eq_true hF).1
              obtain ⟨g, rfl⟩ : ∃ g, A6 = some ⟨g, 0, none⟩ := by
                rcases HOW3.out.2 with ⟨_, h0⟩ | ⟨g, cap, cur, e, _⟩
                · omega
                · cases e; exact ⟨g, rfl⟩
              have hnx : kv_Set.next out p = out.set (kv_Set.pos out p.f0) p := by unfold kv_Set.next; rw [if_pos hF]
              have HNX := Aside0.mk hnx
              have hcall := HF59.out
              rw [hF] at hcall
              obtain ⟨at_, hat⟩ : ∃ a, a = kv_Set.pos out p.f0 := ⟨_, rfl⟩
              rw [← hat] at hcall hpos
              have HAT := Aside0.mk hat
              have HCALL := Aside0.mk hcall
              clear hnx hcall hat HF59 hF
              go_wp2_with fail
              refine HCALL.out.mono ?_
              rintro e w4 ⟨rfl, hb⟩
              have hM0 : w4.cell? ⟨wr.heap.size, 0, none⟩ = some (.string p.f0) := (hb.cell (p := ⟨wr.heap.size, 0, none⟩) (by have := HSZ3.out; simp at this; show wr.heap.size < _; omega)).trans hN0
              have hM1 : w4.cell? ⟨wr.heap.size, 1, none⟩ = some (.string p.f1) := (hb.cell (p := ⟨wr.heap.size, 1, none⟩) (by have := HSZ3.out; simp at this; show wr.heap.size < _; omega)).trans hN1
              have HOW4 := Aside0.mk (kv_Set.own_below HOW3.out hb)
              have HB4 := Aside0.mk (below_step HB3.out hb)
              obtain ⟨⟨q0, hq0⟩, ⟨q1, hq1⟩, hf0, hf1, hgb⟩ := kv_Set.cellsAt HOW4.out at_ hpos
              have HGB := Aside0.mk hgb
              clear hb HCALL HOW3 HB3 hN0 hN1 hgb
              go_wp2_with fail
              go_roundw
              case rel =>
                refine ⟨j + 1, out.set at_ p, by go_num, by omega, ⟨?_⟩, ⟨?_⟩, ⟨?_⟩, ⟨?_⟩⟩
                · have h1 := HGO3.out
                  rw [HNX.out, ← HAT.out] at h1
                  exact h1
                · rw [List.length_set]; have := HLE.out; omega
                · have := kv_Set.store HOW4.out at_ hpos p
                  rw [List.length_set]
                  exact this
                · exact (HB4.out.setCell HGB.out _).setCell HGB.out _
              case measure => simp [intOf]; omega
            · have hF2 : kv_Set.is out p.f0 = false := Bool.eq_false_iff.2 hF
              have hnx : kv_Set.next out p = out.take (kv_Set.pos out p.f0) ++ p :: out.drop (kv_Set.pos out p.f0) := by unfold kv_Set.next; rw [if_neg hF]
              have HNX := Aside0.mk hnx
              have hcall := HF59.out
              rw [hF2] at hcall
              have hple := kv_Set.pos_le out p.f0
              obtain ⟨at_, hat⟩ : ∃ a, a = kv_Set.pos out p.f0 := ⟨_, rfl⟩
              rw [← hat] at hcall hple
              have HPLE := Aside0.mk hple
              have HAT := Aside0.mk hat
              have HCALL := Aside0.mk hcall
              clear hnx hcall hat hple HF59 hF hF2
              go_wp2_with fail
              refine HCALL.out.mono ?_
              rintro e w4 ⟨rfl, hb⟩
              have hM0 : w4.cell? ⟨wr.heap.size, 0, none⟩ = some (.string p.f0) := (hb.cell (p := ⟨wr.heap.size, 0, none⟩) (by have := HSZ3.out; simp at this; show wr.heap.size < _; omega)).trans hN0
              have hM1 : w4.cell? ⟨wr.heap.size, 1, none⟩ = some (.string p.f1) := (hb.cell (p := ⟨wr.heap.size, 1, none⟩) (by have := HSZ3.out; simp at this; show wr.heap.size < _; omega)).trans hN1
              have HOW4 := Aside0.mk (kv_Set.own_below HOW3.out hb)
              have HB4 := Aside0.mk (below_step HB3.out hb)
              clear hb HCALL HOW3 HB3 hN0 hN1
              have HIN := fun vc => Aside0.mk (kv_Set.insert w.heap.size (.slice A6 out.length c6) out at_ HPLE.out p w4.heap.size vc (w4.alloc (.cells #[.string p.f0, .string p.f1] 47)) (HOW4.out.alloc _) (heap_alloc_new w4 _) (fun e => by have := own_lt HOW4.out _ e; omega) (below_size (below_alloc HB4.out _)) (by have := HLE.out; have := HS.out; omega))
              go_wp2_with fail
              refine (HIN _).out.mono ?_
              rintro e w5 ⟨v5, rfl, h1, h2⟩
              have HOW5 := Aside0.mk h1
              have HB5 := Aside0.mk (h2 w (below_alloc HB4.out _))
              clear h1 h2 HIN HOW4 HB4
              go_wp2_with fail
              go_roundw
              case rel =>
                refine ⟨j + 1, out.take at_ ++ p :: out.drop at_, by go_num, by omega, ⟨?_⟩, ⟨?_⟩, HOW5, HB5⟩
                · have h1 := HGO3.out
                  rw [HNX.out, ← HAT.out] at h1
                  exact h1
                · have h1 := HLE.out
                  have h2 := HPLE.out
                  rw [List.length_append, List.length_cons, List.length_take, List.length_drop]
                  omega
              case measure => simp [intOf]; omega
          · have hgo := HGO2.out
            rw [if_neg he] at hgo
            have he1 : (ec == 0) = false := beq_eq_false_iff_ne.2 he
            have he2 : (ec != 0) = true := bne_iff_ne.2 he
            clear he HGO2
            cases hgo
            go_wp2_with fail
            go_ret2
            exact ⟨_, rfl, Kd.R_nil _ _ _ _ _, HB3.out⟩
        · obtain rfl : j = l1.length := by omega
          have hgo := HGO.out
          rw [List.drop_length] at hgo
          cases hgo
          have HOWF := Aside0.mk (kv_Set.toR HOW.out)
          clear HGO
          go_wp2_with fail
          go_ret2
          exact ⟨_, rfl, HOWF.out, HB.out⟩
    · rw [if_neg hs] at h
      cases h

end Go.Proofs.Ytbgndegdegfebaa.K
