/- PacketLosses: for every list of messages, every size and every list of losses the law returns true; the arguments read as they did. No condition. -/
import Derived.Test.YtkofbanncacamaaPkM
import Derived.Test.YtkofbanncacamaaPkP
namespace Go.Proofs.Ytkofbanncacamaa
open Go.ChangeShapes Go.WideShapes Go.ChangeAt Go.RowKit
open Sx

set_option maxRecDepth 100000 in
theorem packetLosses_lifted (os : Os) (started : os.Started) (H : Type) (enc : TypeId × Value → H) :
    ReturnsInHanded {} Try.checked os 4 .any (Rows.packetLossesSpec.pre6 enc Try.prog Try.f4 Rows.packetLossesRow.domain false) (Rows.packetLossesSpec.post enc Try.prog Try.f4 false true false false) := by
  refine returnsInHanded_of_change (C := Try.checked) Try.own started (by kernel_rfl) Try.func4
    (ChangeSpec.witness6 (enc := enc) (C := Try.checked) false ⟨#[], #[.slice none 0 0, .int .i64 0, .slice none 0 0], []⟩ 8 (by kernel_rfl) (by kernel_rfl) (by kernel_rfl) (by kernel_rfl)) ?_
  intro W base args ds gs before hval0 hW hcnd _
  have hval : ∀ (j : Nat) t v, Try.f4.params[j]? = some t → args[j]? = some v → Value.okWide Try.prog W .any base t v := hval0
  have hW' := hW
  obtain ⟨p, q, hA0, hV, rfl, hfz, hnd⟩ := hW
  have hA : DataW.TrodAll enc Try.prog W 0 (fun _ => true) true Try.f4.params.toList args.toList ds p := hA0
  rw [Try.params4] at hA hval
  obtain ⟨v0, v1, v2, d0, d1, d2, p0, p1, p2, rfl, rfl, rfl, h0, h1, h2⟩ := trodAll_three hA
  obtain ⟨rfl, rfl⟩ := trodVars_none hV
  have h0k := h0
  have h2k := h2
  obtain ⟨fuel, hf⟩ := h0
  obtain ⟨fuel2, hf2⟩ := h2
  clear hA0 hval0
  simp only [List.append_nil] at hW'
  have hlt : ∀ x, (x ∈ p0 ∨ x ∈ p1 ∨ x ∈ p2) → x.block < W.heap.size := fun x hx => by have h := hW'.lt x; simp only [List.mem_append] at h; exact h (by simpa [or_assoc] using hx)
  obtain ⟨a0, len, cap, rfl⟩ := okWide_slice Try.underlying42 (hval 0 42 v0 rfl rfl)
  obtain ⟨size, rfl, rfl, rfl, wx⟩ := open_int Try.underlying3 (hval 1 3 v1 rfl rfl) h1
  obtain ⟨a2, len2, cap2, rfl⟩ := okWide_slice Try.underlying43 (hval 2 43 v2 rfl rfl)
  obtain ⟨_, hel⟩ := open_scalars Try.underlying42 (k := .s) (by kernel_rfl) (by kernel_rfl) hf
  obtain ⟨_, hel2⟩ := open_scalars Try.underlying43 (k := .b) (by kernel_rfl) (by kernel_rfl) hf2
  obtain ⟨M, hM, hrd⟩ := strings_of hel
  obtain ⟨B, hB, hrd2⟩ := bools_of hel2
  subst hM; subst hB
  refine (Fn.row (PacketLosses_ok hrd hrd2)).mono fun e W' ⟨⟨v, he, hv⟩, hb⟩ => ?_
  subst he; subst hv
  exact ⟨_, rfl, ⟨_, _, _, [], _, [], hW', trodAll_mk1 (shut_bool Try.underlying4 true), trodAll_mk3 (Below.trod Try.laidOut (by kernel_rfl) (of_decide_eq_true (by kernel_rfl)) h0k hb (fun x hx => hlt x (.inl hx))) (shut_int Try.underlying3 wx) (Below.trod Try.laidOut (by kernel_rfl) (of_decide_eq_true (by kernel_rfl)) h2k hb (fun x hx => hlt x (.inr (.inr hx)))), rfl, hb.frame _, fun h => by cases h⟩⟩

theorem packetLosses_holds : Rows.PacketLossesSaid :=
  OpenClaim.holds_of_wide 4 Try.f4 rfl rfl rfl rfl rfl rfl rfl ⟨rfl, rfl, rfl, rfl, rfl⟩ rfl rfl rfl rfl rfl (by kernel_rfl) Try.func4 (by kernel_rfl)
    (of_decide_eq_true (by kernel_rfl)) (by unfold Func.isWrapper; first | (rw [if_pos (by decide +kernel)]; kernel_rfl) | (rw [if_neg (by decide +kernel)]; exact ⟨rfl, rfl⟩))
    (fun os started H enc _ => packetLosses_lifted os started H enc)
#print axioms packetLosses_holds
end Go.Proofs.Ytkofbanncacamaa
