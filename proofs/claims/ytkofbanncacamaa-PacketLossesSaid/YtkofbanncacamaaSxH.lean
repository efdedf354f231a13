/- The old heap: reading the arguments; nothing old is turned. -/
import Derived.Test.YtkofbanncacamaaTy
import Derived.Below
namespace Go.Proofs.Ytkofbanncacamaa
namespace Sx
open Go.RowKit

/-- all that lies in the heap of W -/
def hall (W : World) : Hl := fun k => W.heap[k]?
theorem Sat.oldCell {W w : World} {As : List HP} (h : Sat w As) (i : Nat) (hi : As[i]? = some (ex (hall W))) {a : Addr} {v : Value} (hv : W.cell? a = some v) : w.cell? a = some v := by
  unfold World.cell? at hv ⊢
  cases e : W.heap[a.block]? with
  | none => rw [e] at hv; cases hv
  | some o => rw [h.getEx i hi (k := a.block) (o := o) e]; rw [e] at hv; exact hv
theorem Sat.oldBelow {W w : World} {As : List HP} (h : Sat w As) (i : Nat) (hi : As[i]? = some (ex (hall W))) (hs : Same W w) : Below W.heap.size W w := by
  have hb : ∀ k, k < W.heap.size → w.heap[k]? = W.heap[k]? := by
    intro k hk
    have e : W.heap[k]? = some W.heap[k] := Array.getElem?_eq_getElem hk
    rw [h.getEx i hi (k := k) (o := W.heap[k]) e, e]
  refine ⟨hs.os, hs.tape, hs.output, ?_, hb⟩
  by_cases q : W.heap.size = 0
  · omega
  · have hk : W.heap.size - 1 < W.heap.size := by omega
    have h1 := h.getEx i hi (k := W.heap.size - 1) (o := W.heap[W.heap.size - 1]) (Array.getElem?_eq_getElem hk)
    have := (Array.getElem?_eq_some_iff.1 h1).1
    omega
theorem Sat.hall0 (W : World) : Sat W [ex fun _ => none, ex (hall W)] := by
  refine ⟨fun i => if i = 0 then fun _ => none else hall W, fun i A hi => ?_, fun i j hi hj hij k => ?_, fun i hi k o hk => ?_⟩
  · match i, hi with
    | 0, hi => simp at hi; subst hi; rfl
    | 1, hi => simp at hi; subst hi; rfl
    | i + 2, hi => simp at hi
  · simp only [List.length_cons, List.length_nil] at hi hj
    by_cases q : i = 0
    · left; simp [q]
    · right; rw [if_pos (by omega)]
  · by_cases q : i = 0
    · simp [q] at hk
    · simp only [if_neg q] at hk; exact hk
/-- A contract over all that lay there: what a row asks for. -/
theorem Fn.row {P : Program} {f : FuncId} {args : Array Value} {W : World} {R : Value → Prop} (h : Fn P f args [ex (hall W)] (Ret fun v Q => R v ∧ Q = [ex (hall W)])) : Calls P f args W fun e W' => (∃ v, e = .returned v ∧ R v) ∧ Below W.heap.size W W' :=
  (h W (fun _ => none) (Sat.hall0 W)).mono fun e W' ⟨Q, hq, hs, hw⟩ => by
    cases e with
    | returned v =>
      obtain ⟨h1, rfl⟩ := hq
      exact ⟨⟨v, rfl, h1⟩, hs.oldBelow 1 rfl hw⟩
    | panicked _ => exact hq.elim
    | outgrown => exact hq.elim
end Sx
end Go.Proofs.Ytkofbanncacamaa
