/- PacketJoins: for every list of packets the law returns true; the list reads as it did. No condition. -/
import Derived.Test.YtkofbanncacamaaRows
import Derived.Test.YtkofbanncacamaaSxI
import Derived.Test.YtkofbanncacamaaPkL
namespace Go.Proofs.Ytkofbanncacamaa
open Go.ChangeShapes Go.WideShapes Go.ChangeAt Go.RowKit

theorem Try.own : ownKnob Try.prog.godebug = none := by kernel_rfl
theorem Try.laidOut : laidOutB Try.prog = true := by kernel_rfl

namespace Sx
theorem scs_pk {cs : List Value} (h : Scs [.b, .i .i64, .i .i64, .i .i64, .s] cs) : ∃ p : Pk, cs = pcells p := by
  cases h with
  | @b x _ _ h => cases h with
    | @i _ a _ _ h => cases h with
      | @i _ f _ _ h => cases h with
        | @i _ n _ _ h => cases h with
          | @s s _ _ h => cases h; exact ⟨⟨x, a, f, n, s.data.toList⟩, by simp [pcells, S]⟩
theorem rdPk {W : World} {ad : Option Addr} {len : Nat} (h : ∀ i, i < len → ∃ cs, Scs [.b, .i .i64, .i .i64, .i .i64, .s] cs ∧ ([Kd.b, .i .i64, .i .i64, .i .i64, .s] ≠ [] → ∃ b off, ad = some ⟨b, off, none⟩ ∧ ∀ (j : Nat) (v : Value), cs[j]? = some v → W.cell? ⟨b, off + i * 5 + j, none⟩ = some v)) :
    ∃ L : List Pk, L.length = len ∧ RdPk W ad L := by
  have key : ∀ n, n ≤ len → ∃ L : List Pk, L.length = n ∧ RdPk W ad L := by
    intro n; induction n with
    | zero => intro _; exact ⟨[], rfl, fun i h => by simp at h⟩
    | succ n ih =>
      intro hn
      obtain ⟨L, h1, h2⟩ := ih (by omega)
      obtain ⟨cs, hs, hc⟩ := h n (by omega)
      obtain ⟨p, rfl⟩ := scs_pk hs
      refine ⟨L ++ [p], by simp [h1], fun i hi => ?_⟩
      by_cases q : i < L.length
      · obtain ⟨b, off, e, hcell⟩ := h2 i q
        exact ⟨b, off, e, by rw [List.getElem_append_left q]; exact hcell⟩
      · have : i = n := by simp at hi; omega
        subst this
        obtain ⟨b, off, e, hcell⟩ := hc (by simp)
        refine ⟨b, off, e, ?_⟩
        rw [List.getElem_append_right (by omega)]
        simpa [h1] using hcell
  exact key len (Nat.le_refl _)
end Sx
open Sx

set_option maxRecDepth 100000 in
theorem packetJoins_lifted (os : Os) (started : os.Started) (H : Type) (enc : TypeId × Value → H) :
    ReturnsInHanded {} Try.checked os 3 .any (Rows.packetJoinsSpec.pre6 enc Try.prog Try.f3 Rows.packetJoinsRow.domain false) (Rows.packetJoinsSpec.post enc Try.prog Try.f3 false true false false) := by
  refine returnsInHanded_of_change (C := Try.checked) Try.own started (by kernel_rfl) Try.func3
    (ChangeSpec.witness6 (enc := enc) (C := Try.checked) false ⟨#[], #[.slice none 0 0], []⟩ 8 (by kernel_rfl) (by kernel_rfl) (by kernel_rfl) (by kernel_rfl)) ?_
  intro W base args ds gs before hval0 hW hcnd _
  have hval : ∀ (j : Nat) t v, Try.f3.params[j]? = some t → args[j]? = some v → Value.okWide Try.prog W .any base t v := hval0
  have hW' := hW
  obtain ⟨p, q, hA0, hV, rfl, hfz, hnd⟩ := hW
  have hA : DataW.TrodAll enc Try.prog W 0 (fun _ => true) true Try.f3.params.toList args.toList ds p := hA0
  rw [Try.params3] at hA hval
  obtain ⟨v0, d0, rfl, rfl, h0⟩ := trodAll_one hA
  obtain ⟨rfl, rfl⟩ := trodVars_none hV
  have h0k := h0
  obtain ⟨fuel, hf⟩ := h0
  clear hA0 hval0
  simp only [List.append_nil] at hW'
  have hlt : ∀ x ∈ p, x.block < W.heap.size := fun x hx => by simpa using hW'.lt x hx
  obtain ⟨a0, len, cap, rfl⟩ := okWide_slice Try.underlying22 (hval 0 22 v0 rfl rfl)
  obtain ⟨_, hel⟩ := open_flats Try.underlying22 fk34 (by kernel_rfl) hf
  obtain ⟨L, hL, hrd⟩ := rdPk hel
  subst hL
  refine (Fn.row (PacketJoins_ok hrd)).mono fun e W' ⟨⟨v, he, hv⟩, hb⟩ => ?_
  subst he; subst hv
  exact ⟨_, rfl, ⟨_, _, _, [], _, [], hW', trodAll_mk1 (shut_bool Try.underlying4 true), trodAll_mk1 (Below.trod Try.laidOut (by kernel_rfl) (of_decide_eq_true (by kernel_rfl)) h0k hb hlt), rfl, hb.frame _, fun h => by cases h⟩⟩

theorem packetJoins_holds : Rows.PacketJoinsSaid :=
  OpenClaim.holds_of_wide 3 Try.f3 rfl rfl rfl rfl rfl rfl rfl ⟨rfl, rfl, rfl, rfl, rfl⟩ rfl rfl rfl rfl rfl (by kernel_rfl) Try.func3 (by kernel_rfl)
    (of_decide_eq_true (by kernel_rfl)) (by unfold Func.isWrapper; first | (rw [if_pos (by decide +kernel)]; kernel_rfl) | (rw [if_neg (by decide +kernel)]; exact ⟨rfl, rfl⟩))
    (fun os started H enc _ => packetJoins_lifted os started H enc)
#print axioms packetJoins_holds
end Go.Proofs.Ytkofbanncacamaa
