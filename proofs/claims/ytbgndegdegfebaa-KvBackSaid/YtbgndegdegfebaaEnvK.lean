/- What a package-level variable of Go's library (internal/bytealg.MaxLen) holds: some int. A premise of the contracts that read it; a row's world gives it. -/
import Derived.Test.YtbgndegdegfebaaProg
import Derived.Below
import Derived.Deep.Draws
import Derived.Test.YtbgndegdegfebaaWWords
namespace Go.Proofs.Ytbgndegdegfebaa.K
open Go.RowKit Go.Proofs.YtbgndegdegfebaaW.PrintWords
def Env (w : World) : Prop := ∃ m, w.cell? ⟨0, 0, none⟩ = some (.int .i64 m)
theorem Env.below {w W : World} (h : Env w) (hb : Below w.heap.size w W) : Env W := by
  obtain ⟨m, hm⟩ := h
  exact ⟨m, pw_cell_below hb hm⟩
theorem Env.drewN {w : World} (h : Env w) (n : Nat) : Env (w.drewN n) := by
  obtain ⟨m, hm⟩ := h
  exact ⟨m, by simpa using hm⟩
theorem Env.drawn {w W : World} (h : Env w) (hd : Drawn0 w W) : Env W := h.below hd.below
end Go.Proofs.Ytbgndegdegfebaa.K
