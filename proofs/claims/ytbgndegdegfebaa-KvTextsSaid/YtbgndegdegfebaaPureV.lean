/- Plain laws of layer 21 (kv): texts and pairs. No program in sight. -/
import Derived.Test.YtbgndegdegfebaaPureU
import Derived.Test.YtbgndegdegfebaaK6
import Derived.Test.YtbgndegdegfebaaK8
import Derived.Test.YtbgndegdegfebaaK9
import Derived.Test.YtbgndegdegfebaaK16
namespace Go.Proofs.Ytbgndegdegfebaa.PureV
open Go.RowKit Go.Proofs.YtbgndegdegfebaaW.PrintWords Go.Proofs.YtbgndegdegfebaaW.PrintLast Go.Proofs.YtbgndegdegfebaaW.PrintMore Go.Proofs.Ytbgndegdegfebaa.K Go.Proofs.Ytbgndegdegfebaa.Pure0 Go.Proofs.Ytbgndegdegfebaa.PureU
set_option linter.unusedVariables false
set_option linter.unusedSimpArgs false

/-! ### print -/
abbrev all := kv_Print.all
def pr (l : List S47) : ByteArray × Int := if R l = true then (if 496 < (all l).length then (⟨#[]⟩, 7) else (B (all l), 0)) else (⟨#[]⟩, 6)
theorem all_nil : all [] = [] := rfl
theorem all_cons (x : S47) (l : List S47) : all (x :: l) = L x.f0 ++ 61 :: (L x.f1 ++ 10 :: all l) := by
  simp [all, kv_Print.all, kv_Print.one]
theorem all_app (a b : List S47) : all (a ++ b) = all a ++ all b := by
  simp [all, kv_Print.all]
theorem all_len (n : Nat) (l : List S47) (hs : Small n l) : (all l).length ≤ l.length * (2 * n + 2) := by
  induction l with
  | nil => simp [all_nil]
  | cons x l ih =>
    have h1 := ih (fun y hy => hs y (List.mem_cons_of_mem _ hy))
    obtain ⟨h2, h3⟩ := hs x (List.mem_cons_self ..)
    rw [size_L] at h2 h3
    rw [all_cons]
    simp only [List.length_append, List.length_cons]
    rw [Nat.add_mul]
    omega
theorem evSome' {α : Type} {a : Option α} {r : α} (h : a = some r) : Ev (fun _ => a) r := h ▸ Ev.now r
theorem kvPrint (l : List S47) (h : l.length < 1000000) (hs : (all l).length ≤ 140737488355328) : Ev (fun k => kv_Print.f k l) (pr l) := by
  refine Ev.bind (kvRight l h) (evSome' ?_)
  unfold kv_Print.g pr
  by_cases hr : R l = true
  · rw [if_pos hr, if_pos hr, if_pos hs]
    split <;> rfl
  · rw [if_neg hr, if_neg hr]
theorem refPrint_loop (l : List S47) (h : l.length < 1000000) (hl : (all l).length < 1000000000) (d : Nat) : ∀ i : Nat, i + d = l.length →
    Ev (fun k => postilionref21_Print.l0 k l (B (all (l.take i))) (i : Int)) (if 496 < (all l).length then (⟨#[]⟩, 7) else (B (all l), 0)) := by
  induction d with
  | zero =>
    intro i hi
    rw [List.take_of_length_le (by omega)]
    refine evStep (fun k => by rw [postilionref21_Print.l0]) (evNeg (by omega) ?_)
    by_cases h4 : 496 < (all l).length
    · rw [if_pos h4]
      exact evPos (by rw [size_B]; omega) (Ev.now _)
    · rw [if_neg h4]
      exact evNeg (by rw [size_B]; omega) (Ev.now _)
  | succ d ih =>
    intro i hi
    have hlt : i < l.length := by omega
    have g := ih (i + 1) (by omega)
    have e1 : l = l.take i ++ l[i] :: l.drop (i + 1) := by rw [← List.drop_eq_getElem_cons hlt, List.take_append_drop]
    have e2 := congrArg (fun z => (all z).length) e1
    simp only [all_app, all_cons, List.length_append, List.length_cons] at e2
    have s0 := size_L l[i].f0
    have s1 := size_L l[i].f1
    have e3 : B (all (l.take i)) ++ l[i].f0 ++ (⟨#[61]⟩ : ByteArray) ++ l[i].f1 ++ (⟨#[10]⟩ : ByteArray) = B (all (l.take (i + 1))) := by
      rw [List.take_add_one, List.getElem?_eq_getElem hlt, Option.toList_some, all_app, all_cons, all_nil]
      apply L_inj
      simp only [L_app, L_B]
      simp
    refine evStep (fun k => by rw [postilionref21_Print.l0]) (evPos (by omega) (evPos (by omega) ?_))
    rw [rd47 l i hlt]
    have z : ∀ (a b : ByteArray), (a ++ b).size = a.size + b.size := fun a b => ByteArray.size_append
    have z1 : (⟨#[61]⟩ : ByteArray).size = 1 := rfl
    refine evPos ?_ (evPos ?_ (evPos ?_ (evPos ?_ ?_)))
    · rw [size_B]; omega
    · rw [z, size_B]; omega
    · rw [z, z, size_B, z1]; omega
    · rw [z, z, z, size_B, z1]; omega
    · rw [e3, wrap_succ i (by omega)]
      exact g
theorem refPrint (l : List S47) (h : l.length < 1000000) (hs : Small 900000 l) (hl : (all l).length < 1000000000) : Ev (fun k => postilionref21_Print.f k l) (pr l) := by
  refine Ev.bind (refRight l h hs) ?_
  unfold pr
  by_cases hr : R l = true
  · rw [if_pos hr]
    exact evPos hr (refPrint_loop l h hl l.length 0 (by omega))
  · rw [if_neg hr]
    exact evNeg hr (Ev.now _)

/-! ### parse -/
/-- What lines a text holds. -/
inductive Ln : List UInt8 → Option (List S47) → Prop
  | nil : Ln [] (some [])
  | nol {t} : t ≠ [] → 10 ∉ t → Ln t none
  | noe {p q} : 10 ∉ p → 61 ∉ p → Ln (p ++ 10 :: q) none
  | go {a v q r} : 10 ∉ a → 61 ∉ a → 10 ∉ v → Ln q r → Ln (a ++ 61 :: (v ++ 10 :: q)) (r.map (⟨B a, B v⟩ :: ·))
theorem ln_total : ∀ (n : Nat) (t : List UInt8), t.length ≤ n → ∃ r, Ln t r := by
  intro n
  induction n with
  | zero =>
    intro t h
    obtain rfl : t = [] := List.length_eq_zero_iff.1 (by omega)
    exact ⟨_, .nil⟩
  | succ n ih =>
    intro t h
    by_cases h0 : t = []
    · subst h0; exact ⟨_, .nil⟩
    rcases parts 10 t with hn | ⟨p, q, rfl, hp⟩
    · exact ⟨_, .nol h0 hn⟩
    rcases parts 61 p with hn | ⟨a, v, rfl, ha⟩
    · exact ⟨_, .noe hp hn⟩
    obtain ⟨r, hr⟩ := ih q (by simp at h; omega)
    rw [List.append_assoc, List.cons_append]
    simp only [List.mem_append, List.mem_cons, not_or] at hp
    exact ⟨_, .go hp.1 ha hp.2.2 hr⟩
def fin (acc : List S47) (r : Option (List S47)) : List S47 × Int := match r with
  | none => ([], 6)
  | some l => if R (acc ++ l) = true then (acc ++ l, 0) else ([], 6)
theorem fin_map (acc : List S47) (x : S47) (r : Option (List S47)) : fin (acc ++ [x]) r = fin acc (r.map (x :: ·)) := by
  cases r with
  | none => rfl
  | some l => simp [fin]
theorem cutB {t : List UInt8} {c : UInt8} (h : t.length < 1000000) : strings_Cut.f (B t) ⟨#[c]⟩ = some (B (Lib.cut t [c]).1, B (Lib.cut t [c]).2.1, (Lib.cut t [c]).2.2) := by
  unfold strings_Cut.f
  rw [if_pos (by rw [size_B]; omega)]
theorem kvParse_loop {t : List UInt8} {r : Option (List S47)} (h : Ln t r) : t.length < 1000000 → ∀ acc : List S47, acc.length + t.length < 1000000 → Ev (fun k => kv_Parse.l0 k (B t) acc) (fin acc r) := by
  induction h with
  | nil =>
    intro _ acc ha
    refine evStep (fun k => by rw [kv_Parse.l0]) (evPos (by rw [toL]) (Ev.bind (kvRight acc (by simp at ha; omega)) ?_))
    have ef : fin acc (some []) = if R acc = true then (acc, 0) else ([], 6) := by simp [fin]
    rw [ef]
    by_cases hr : R acc = true
    · exact evPos hr (evSome (by rw [if_pos hr]))
    · exact evNeg hr (evSome (by rw [if_neg hr]))
  | @nol t h0 hn =>
    intro hl acc ha
    refine evStep (fun k => by rw [kv_Parse.l0]) (evNeg (by rw [toL]; exact h0) (evBindSome (cutB hl) ?_))
    rw [cut_none hn]
    exact evBindSome (cutB hl) (evNeg (by simp) (Ev.now _))
  | @noe p q hp hn =>
    intro hl acc ha
    refine evStep (fun k => by rw [kv_Parse.l0]) (evNeg (by rw [toL]; simp) (evBindSome (cutB hl) ?_))
    rw [cut_some q hp]
    refine evBindSome (cutB (show p.length < 1000000 by simp at hl; omega)) ?_
    rw [cut_none hn]
    exact evPos rfl (evNeg (by simp) (Ev.now _))
  | @go a v q r h1 h2 h3 hq ih =>
    intro hl acc ha
    have hl2 := hl
    simp only [List.length_append, List.length_cons] at hl2 ha
    refine evStep (fun k => by rw [kv_Parse.l0]) (evNeg (by rw [toL]; simp) (evBindSome (cutB hl) ?_))
    rw [show a ++ 61 :: (v ++ 10 :: q) = (a ++ 61 :: v) ++ 10 :: q from by simp, cut_some q (by simp only [List.mem_append, List.mem_cons, not_or]; exact ⟨h1, by decide, h3⟩)]
    refine evBindSome (cutB (by simp only [List.length_append, List.length_cons]; omega)) ?_
    rw [cut_some v h2]
    refine evPos rfl (evPos rfl (evPos (by omega) ?_))
    rw [← fin_map]
    exact ih (by omega) _ (by rw [List.length_append, List.length_singleton]; omega)

/-- One byte that ends no line. -/
theorem scan_one (w : List UInt8) (acc : List S47) (f s : Int) (i : Nat) (r : List S47 × Int) (hw : w.length < 1000000) (hi : i < w.length) (hb : w[i] ≠ 10)
    (h : Ev (fun k => postilionref21_Parse.l0 k (B w) acc f (if w[i] = 61 ∧ s < 0 then (i : Int) else s) ((i + 1 : Nat) : Int)) r) :
    Ev (fun k => postilionref21_Parse.l0 k (B w) acc f s (i : Int)) r := by
  have hsz := size_B w
  have hbt : bt (B w) (i : Int) = (w[i].toNat : Int) := bt_get (B w) i hi
  have e10 : ¬ ((w[i].toNat : Int) = 10) := fun e => hb ((u8_nat _ 10).1 e)
  have j2 : ∀ s' : Int, s' = (if w[i] = 61 ∧ s < 0 then (i : Int) else s) → Ev (fun k => postilionref21_Parse.j2 k (B w) acc f s' (i : Int)) r := by
    intro s' es
    refine evStep (fun k => by rw [postilionref21_Parse.j2]) (evPos (by omega) (evPos (by omega) ?_))
    rw [hbt, wrap_succ i (by omega), es]
    exact evNeg e10 h
  refine evStep (fun k => by rw [postilionref21_Parse.l0]) (evPos (by omega) (evPos (by omega) ?_))
  rw [hbt]
  by_cases h61 : w[i] = 61
  · refine evPos (by rw [h61]; rfl) (evStep (fun k => by rw [postilionref21_Parse.j1]) ?_)
    by_cases hs : s < 0
    · exact evPos (decide_eq_true hs) (j2 _ (by rw [if_pos ⟨h61, hs⟩]))
    · exact evNeg (by simpa using hs) (j2 _ (by rw [if_neg (fun e => hs e.2)]))
  · refine evNeg (fun e => h61 ((u8_nat _ 61).1 e)) (evStep (fun k => by rw [postilionref21_Parse.j1]) (evNeg (by simp) (j2 _ (by rw [if_neg (fun e => h61 e.1)]))))
theorem mid (u : List UInt8) (b : UInt8) (q : List UInt8) (h : u.length < (u ++ b :: q).length) : (u ++ b :: q)[u.length] = b := by simp
theorem scan (p : List UInt8) : ∀ (u q : List UInt8) (acc : List S47) (f s : Int) (r : List S47 × Int), (u ++ (p ++ q)).length < 1000000 → 10 ∉ p → (61 ∉ p ∨ 0 ≤ s) →
    Ev (fun k => postilionref21_Parse.l0 k (B (u ++ (p ++ q))) acc f s (((u ++ p).length : Nat) : Int)) r → Ev (fun k => postilionref21_Parse.l0 k (B (u ++ (p ++ q))) acc f s ((u.length : Nat) : Int)) r := by
  induction p with
  | nil =>
    intro u q acc f s r hw h1 h2 h
    rw [List.append_nil] at h
    exact h
  | cons b p ih =>
    intro u q acc f s r hw h1 h2 h
    have hi : u.length < (u ++ (b :: p ++ q)).length := by simp
    have eb : (u ++ (b :: p ++ q))[u.length] = b := mid u b (p ++ q) hi
    simp only [List.mem_cons, not_or] at h1 h2
    refine scan_one _ acc f s u.length r hw hi (by rw [eb]; exact fun e => h1.1 e.symm) ?_
    rw [eb, if_neg (by
      rintro ⟨e1, e2⟩
      rcases h2 with h2 | h2
      · exact h2.1 e1.symm
      · omega)]
    have := ih (u ++ [b]) q acc f s r (by simpa using hw) h1.2 (h2.imp (fun h => h.2) id) (by simpa using h)
    simpa using this
theorem btmid (u q : List UInt8) : bt (B (u ++ 10 :: q)) ((u.length : Nat) : Int) = ((10 : UInt8).toNat : Int) := by
  have hi : u.length < (u ++ 10 :: q).length := by simp
  rw [bt_get (B (u ++ 10 :: q)) u.length hi]
  congr 2
  exact mid u 10 q hi
/-- The end of a line. -/
theorem scan_nl (u q : List UInt8) (acc : List S47) (f s : Int) (r : List S47 × Int) (hw : (u ++ 10 :: q).length < 1000000)
    (h : Ev (fun k => postilionref21_Parse.j2 k (B (u ++ 10 :: q)) acc f s (u.length : Int)) r) :
    Ev (fun k => postilionref21_Parse.l0 k (B (u ++ 10 :: q)) acc f s (u.length : Int)) r := by
  have hsz := size_B (u ++ 10 :: q)
  have hi : u.length < (u ++ 10 :: q).length := by simp
  have hbt : bt (B (u ++ 10 :: q)) (u.length : Int) = ((10 : UInt8).toNat : Int) := by
    rw [bt_get (B (u ++ 10 :: q)) u.length hi]
    congr 2
    exact mid u 10 q hi
  refine evStep (fun k => by rw [postilionref21_Parse.l0]) (evPos (by omega) (evPos (by omega) ?_))
  rw [hbt]
  exact evNeg (by decide) (evStep (fun k => by rw [postilionref21_Parse.j1]) (evNeg (by simp) h))
theorem scan_end (w : List UInt8) (acc : List S47) (f s : Int) (hf : f ≠ (w.length : Int)) : Ev (fun k => postilionref21_Parse.l0 k (B w) acc f s (w.length : Int)) ([], 6) := by
  have hsz := size_B w
  exact evStep (fun k => by rw [postilionref21_Parse.l0]) (evNeg (by omega) (evNeg (by omega) (Ev.now _)))
theorem refParse_loop {t : List UInt8} {r : Option (List S47)} (h : Ln t r) : ∀ (u : List UInt8) (acc : List S47), (u ++ t).length < 1000000 → acc.length + t.length < 1000000 → Small 900000 acc → (u ++ t).length ≤ 900000 →
    Ev (fun k => postilionref21_Parse.l0 k (B (u ++ t)) acc (u.length : Int) (-1) (u.length : Int)) (fin acc r) := by
  induction h with
  | nil =>
    intro u acc hw ha hs _
    rw [List.append_nil]
    have hsz := size_B u
    refine evStep (fun k => by rw [postilionref21_Parse.l0]) (evNeg (by omega) (evPos (by omega) (Ev.bind (refRight acc (by simp at ha; omega) hs) ?_)))
    have ef : fin acc (some []) = if R acc = true then (acc, 0) else ([], 6) := by simp [fin]
    rw [ef]
    by_cases hr : R acc = true
    · exact evPos hr (evSome (by rw [if_pos hr]))
    · exact evNeg hr (evSome (by rw [if_neg hr]))
  | @nol t h0 hn =>
    intro u acc hw ha hs _
    have h1 : 0 < t.length := List.length_pos_iff.2 h0
    have hf : (u.length : Int) ≠ ((u ++ t).length : Int) := by rw [List.length_append]; omega
    rcases parts 61 t with he | ⟨a, v, rfl, hav⟩
    · have := scan t u [] acc (u.length : Int) (-1) ([], 6) (by simpa using hw) hn (.inl he) (by simpa using scan_end (u ++ t) acc (u.length : Int) (-1) hf)
      simpa [fin] using this
    · simp only [List.mem_append, List.mem_cons, not_or] at hn
      have e1 := scan v (u ++ a ++ [61]) [] acc (u.length : Int) ((u ++ a).length : Int) ([], 6) (by simpa using hw) hn.2.2 (.inr (by omega)) (by simpa using scan_end (u ++ (a ++ 61 :: v)) acc (u.length : Int) ((u ++ a).length : Int) hf)
      refine scan a u (61 :: v) acc (u.length : Int) (-1) _ (by simpa using hw) hn.1 (.inl hav) ?_
      have hi : (u ++ a).length < (u ++ (a ++ 61 :: v)).length := by simp
      have eb : (u ++ (a ++ 61 :: v))[(u ++ a).length] = 61 := by simp
      refine scan_one _ acc _ _ (u ++ a).length _ hw hi (by rw [eb]; decide) ?_
      rw [eb, if_pos ⟨rfl, by decide⟩]
      have n5 : ((u ++ a ++ [61]).length : Int) = (((u ++ a).length + 1 : Nat) : Int) := by simp [Nat.add_assoc]
      rw [n5] at e1
      have ew : u ++ a ++ [61] ++ (v ++ []) = u ++ (a ++ 61 :: v) := by simp
      rw [ew] at e1
      exact e1
  | @noe p q hp hn =>
    intro u acc hw ha hs _
    refine scan p u (10 :: q) acc (u.length : Int) (-1) _ hw hp (.inl hn) ?_
    have e := scan_nl (u ++ p) q acc (u.length : Int) (-1) ([], 6) (by simpa using hw) (by
      have hsz := size_B (u ++ p ++ 10 :: q)
      have hi : (u ++ p).length < (u ++ p ++ 10 :: q).length := by simp
      have hbt : bt (B (u ++ p ++ 10 :: q)) ((u ++ p).length : Int) = ((10 : UInt8).toNat : Int) := by
        rw [bt_get (B (u ++ p ++ 10 :: q)) (u ++ p).length hi]
        congr 2
        exact mid (u ++ p) 10 q hi
      refine evStep (fun k => by rw [postilionref21_Parse.j2]) (evPos (by omega) (evPos (by omega) ?_))
      rw [hbt]
      exact evPos (by decide) (evPos (by decide) (Ev.now _)))
    simpa [fin] using e
  | @go a v q r h1 h2 h3 hq ih =>
    intro u acc hw ha hs h9
    have hl2 := hw
    simp only [List.length_append, List.length_cons] at hl2 ha h9
    refine scan a u (61 :: (v ++ 10 :: q)) acc (u.length : Int) (-1) _ hw h1 (.inl h2) ?_
    have hi : (u ++ a).length < (u ++ (a ++ 61 :: (v ++ 10 :: q))).length := by simp
    have eb : (u ++ (a ++ 61 :: (v ++ 10 :: q)))[(u ++ a).length] = 61 := by simp
    refine scan_one _ acc _ _ (u ++ a).length _ hw hi (by rw [eb]; decide) ?_
    rw [eb, if_pos ⟨rfl, by decide⟩]
    have g := ih (u ++ a ++ [61] ++ v ++ [10]) (acc ++ [⟨B a, B v⟩]) (by simp; omega) (by simp; omega) (by
      intro x hx
      rcases List.mem_append.1 hx with hx | hx
      · exact hs x hx
      · obtain rfl := List.mem_singleton.1 hx
        exact ⟨by rw [size_B]; omega, by rw [size_B]; omega⟩) (by simp; omega)
    rw [fin_map] at g
    have ew : u ++ a ++ [61] ++ v ++ [10] ++ q = u ++ (a ++ 61 :: (v ++ 10 :: q)) := by simp
    rw [ew] at g
    have ew2 : u ++ a ++ [61] ++ v ++ 10 :: q = u ++ (a ++ 61 :: (v ++ 10 :: q)) := by simp
    have e1 := scan v (u ++ a ++ [61]) (10 :: q) acc (u.length : Int) ((u ++ a).length : Int) (fin acc (r.map (⟨B a, B v⟩ :: ·))) (by simp; omega) h3 (.inr (by omega)) (by
      rw [← List.append_assoc]
      refine scan_nl (u ++ a ++ [61] ++ v) q acc _ _ _ (by simp; omega) ?_
      have hsz := size_B (u ++ a ++ [61] ++ v ++ 10 :: q)
      have hi2 : (u ++ a ++ [61] ++ v).length < (u ++ a ++ [61] ++ v ++ 10 :: q).length := by simp
      have hbt := btmid (u ++ a ++ [61] ++ v) q
      have n1 : (u ++ a).length = u.length + a.length := List.length_append
      have n2 : (u ++ a ++ [61] ++ v).length = u.length + a.length + 1 + v.length := by simp only [List.length_append, List.length_cons, List.length_nil]
      have n3 : (u ++ a ++ [61] ++ v ++ 10 :: q).length = u.length + a.length + 1 + v.length + (q.length + 1) := by simp only [List.length_append, List.length_cons, List.length_nil]
      refine evStep (fun k => by rw [postilionref21_Parse.j2]) (evPos (by omega) (evPos (by omega) ?_))
      rw [hbt, wrap_succ (u ++ a).length (by omega), wrap_succ _ (show (u ++ a ++ ([61] : List UInt8) ++ v).length < 9223372036854775807 by omega)]
      refine evPos (by decide) (evNeg (by omega) (evPos (by omega) (evPos (by omega) (evPos (by omega) (evPos (by omega) (evPos (by omega) (evPos (by omega) (evPos (by omega) ?_))))))))
      have x1 : (B (u ++ a ++ [61] ++ v ++ 10 :: q)).extract ((u.length : Int)).toNat (((u ++ a).length : Int)).toNat = B a := by
        apply L_inj
        rw [L_ext, L_B, Int.toNat_natCast, Int.toNat_natCast, n1, Nat.add_sub_cancel_left]
        simp
      have x2 : (B (u ++ a ++ [61] ++ v ++ 10 :: q)).extract ((((u ++ a).length + 1 : Nat) : Int)).toNat (((u ++ a ++ [61] ++ v).length : Int)).toNat = B v := by
        apply L_inj
        rw [L_ext, L_B, Int.toNat_natCast, Int.toNat_natCast, n1, n2, Nat.add_sub_cancel_left]
        have : u ++ a ++ [61] ++ v ++ 10 :: q = (u ++ a ++ [61]) ++ (v ++ 10 :: q) := by simp
        rw [this, List.drop_left' (by simp [Nat.add_assoc]), List.take_left' rfl]
      rw [x1, x2, ew2]
      have n4 : ((u ++ a ++ [61] ++ v ++ [10]).length : Int) = (((u ++ a ++ [61] ++ v).length + 1 : Nat) : Int) := by simp [Nat.add_assoc]
      rw [n4] at g
      exact g)
    rw [← List.append_assoc, ew2] at e1
    have n5 : ((u ++ a ++ [61]).length : Int) = (((u ++ a).length + 1 : Nat) : Int) := by simp [Nat.add_assoc]
    rw [n5] at e1
    exact e1
def pa (t : ByteArray) (r : Option (List S47)) : List S47 × Int := if 496 < t.size then ([], 7) else fin [] r
theorem kvParse (t : ByteArray) {r : Option (List S47)} (h : Ln (L t) r) : Ev (fun k => kv_Parse.f k t) (pa t r) := by
  unfold pa
  by_cases h4 : 496 < t.size
  · rw [if_pos h4]; exact evPos (by omega) (Ev.now _)
  · rw [if_neg h4]
    have := kvParse_loop h (by rw [← size_L]; omega) [] (by rw [← size_L]; simp; omega)
    rw [B_L] at this
    exact evNeg (by omega) this
theorem refParse (t : ByteArray) {r : Option (List S47)} (h : Ln (L t) r) : Ev (fun k => postilionref21_Parse.f k t) (pa t r) := by
  unfold pa
  by_cases h4 : 496 < t.size
  · rw [if_pos h4]; exact evPos (by omega) (Ev.now _)
  · rw [if_neg h4]
    have := refParse_loop h [] [] (by rw [List.nil_append, ← size_L]; omega) (by rw [← size_L]; simp; omega) (fun x hx => absurd hx (List.not_mem_nil)) (by rw [List.nil_append, ← size_L]; omega)
    rw [List.nil_append, B_L] at this
    exact evNeg (by omega) this
theorem ln_len {t : List UInt8} {r : Option (List S47)} (h : Ln t r) : ∀ l, r = some l → l.length ≤ t.length := by
  induction h with
  | nil => intro l e; cases e; simp
  | nol => intro l e; cases e
  | noe => intro l e; cases e
  | @go a v q r h1 h2 h3 hq ih =>
    intro l e
    cases r with
    | none => cases e
    | some l' =>
      cases e
      have := ih l' rfl
      simp
      omega
theorem pa_len (t : ByteArray) {r : Option (List S47)} (h : Ln (L t) r) : (pa t r).1.length < 1000000 := by
  unfold pa
  by_cases h4 : 496 < t.size
  · rw [if_pos h4]; simp
  rw [if_neg h4]
  cases r with
  | none => simp [fin]
  | some l =>
    have := ln_len h l rfl
    rw [← size_L] at this
    simp only [fin, List.nil_append]
    split
    · show l.length < _
      omega
    · simp

/-! ### get -/
def ge (l : List S47) (key : ByteArray) : ByteArray × Bool := match l.find? (fun x => x.f0.toList == key.toList) with
  | some x => (x.f1, true)
  | none => (⟨#[]⟩, false)
theorem kvGet (l : List S47) (key : ByteArray) : kv_Get.f l key = some (ge l key) := by
  unfold kv_Get.f ge
  cases l.find? _ <;> rfl
theorem refGet_loop (l : List S47) (key : ByteArray) (h : l.length < 1000000) (d : Nat) : ∀ i : Nat, i + d = l.length → Ev (fun k => postilionref21_Get.l0 k l key (i : Int)) (ge (l.drop i) key) := by
  induction d with
  | zero =>
    intro i hi
    rw [List.drop_eq_nil_of_le (by omega), show ge [] key = (⟨#[]⟩, false) from rfl]
    exact evStep (fun k => by rw [postilionref21_Get.l0]) (evNeg (by omega) (Ev.now _))
  | succ d ih =>
    intro i hi
    have hlt : i < l.length := by omega
    have g := ih (i + 1) (by omega)
    rw [List.drop_eq_getElem_cons hlt]
    refine evStep (fun k => by rw [postilionref21_Get.l0]) (evPos (by omega) (evPos (by omega) ?_))
    rw [rd47 l i hlt]
    by_cases he : l[i].f0.toList = key.toList
    · refine evPos he (evSome ?_)
      unfold ge
      rw [List.find?_cons_of_pos (by simp [he])]
    · refine evNeg he ?_
      rw [wrap_succ i (by omega)]
      have : ge (l[i] :: l.drop (i + 1)) key = ge (l.drop (i + 1)) key := by
        unfold ge
        rw [List.find?_cons_of_neg (by simp [he])]
      rw [this]
      exact g
theorem refGet (l : List S47) (key : ByteArray) (h : l.length < 1000000) : Ev (fun k => postilionref21_Get.f k l key) (ge l key) := refGet_loop l key h l.length 0 (by omega)

theorem small_mono {n m : Nat} (h : n ≤ m) {l : List S47} (hs : Small n l) : Small m l := fun x hx => ⟨Nat.le_trans (hs x hx).1 h, Nat.le_trans (hs x hx).2 h⟩
end Go.Proofs.Ytbgndegdegfebaa.PureV
