/- Zv: a call without arguments that gives true. No condition. -/
import Derived.Test.YtdddbifjkkhpbaaGreatDoorZvMemo
import Derived.Below
namespace Go.Zv
open Go Go.RowKit
theorem closed_calls {P : Program} {G : Nat → Option (List V)} {f : Nat} (hG : ∀ g, G g = none) (he : ∀ (vs : Array Value) (w : World), (callFunc f vs).run P w = .ok (.enter f vs) w) (h : Does P G f [] (.bool true) []) (w : World) :
    Calls P f #[] w fun e w' => e = .returned (.bool true) ∧ Below w.heap.size w w' := by
  have hg : Given G (fun _ => False) w [] [] [] := ⟨.nil, by simp, by simp, fun _ h => h.elim, fun g cs hc => by rw [hG g] at hc; cases hc⟩
  rcases h (fun _ => False) w [] [] hg with ⟨_, hc⟩ | ⟨v, w', hv, _⟩
  · refine hc.mono fun e w' ⟨v, h1, S', Or, Oo, hb⟩ => ?_
    obtain rfl : v = .bool true := by
      have := hb.res
      cases this
      rfl
    exact ⟨h1, hb.same.os, hb.same.tape, hb.same.output, hb.size, fun b hlt => hb.keep b hlt (by simp)⟩
  · rw [he] at hv
    cases hv
end Go.Zv
