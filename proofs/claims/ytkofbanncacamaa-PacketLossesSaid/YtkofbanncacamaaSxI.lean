/- Arguments: slices of structs of scalars, read from the old heap. -/
import Derived.Test.YtkofbanncacamaaSxH
import Derived.ProofKit
import Derived.Deep.Slices
namespace Go.Proofs.Ytkofbanncacamaa
namespace Sx
open Go.ChangeShapes Go.WideShapes Go.ChangeAt Go.RowKit

theorem flatF_get {P : Program} : ∀ (fs : List Field) (n : Nat) (ks : List Kd), flatF P fs n = some ks → ks.length = fs.length ∧ ∀ (j : Nat) (k : Kd), ks[j]? = some k → ∃ f, fs[j]? = some f ∧ kdOf P f.type = some k ∧ f.offset = n + j ∧ tyAgg P f.type = some (false, 1) := by
  intro fs; induction fs with
  | nil => intro n ks h; simp only [flatF, Option.some.injEq] at h; subst h; exact ⟨rfl, fun j k hk => by simp at hk⟩
  | cons f fs ih =>
    intro n ks h
    simp only [flatF] at h
    split at h
    · rename_i k r h1 h2 h3
      split at h
      · rename_i ho
        simp only [Option.some.injEq] at h; subst h
        obtain ⟨e1, e2⟩ := ih (n + 1) r h3
        refine ⟨by simp [e1], fun j k' hk => ?_⟩
        cases j with
        | zero => simp at hk; subst hk; exact ⟨f, rfl, h1, ho.1, h2⟩
        | succ j =>
          simp at hk
          obtain ⟨f', g1, g2, g3, g4⟩ := e2 j k' hk
          exact ⟨f', by simpa using g1, g2, by omega, g4⟩
      · cases h
    · cases h
theorem scs_of : ∀ (ks : List Kd) (cs : List Value), cs.length = ks.length → (∀ (j : Nat) (k : Kd), ks[j]? = some k → ∃ v, cs[j]? = some v ∧ Scs [k] [v]) → Scs ks cs := by
  intro ks; induction ks with
  | nil => intro cs h _; have : cs = [] := List.eq_nil_of_length_eq_zero (by simpa using h); subst this; exact .n
  | cons k ks ih =>
    intro cs h hj
    cases cs with
    | nil => simp at h
    | cons c cs =>
      have h1 := ih cs (by simpa using h) fun j k' hk => hj (j + 1) k' (by simpa using hk)
      obtain ⟨v, e1, e2⟩ := hj 0 k rfl
      simp at e1; subst e1
      cases e2 with
      | b _ => exact .b h1
      | i _ => exact .i h1
      | s _ => exact .s h1
section
variable {H : Type} {enc : TypeId × Value → H} {P : Program} {w : World} {base : Nat} {spare : Nat → Bool} {held : Bool}
theorem cellsOf_tyAgg {t : TypeId} {g : Bool} {n : Nat} (h : tyAgg P t = some (g, n)) : P.cellsOf t = n := by
  unfold tyAgg at h
  unfold Program.cellsOf
  split at h
  · rename_i u i h1 h2
    simp only [Option.some.injEq, Prod.mk.injEq] at h
    rw [h2]; exact h.2
  · cases h
theorem trod_kd {t : TypeId} {k : Kd} {fuel : Nat} {cs : List Value} {x : DataW H × List MemPlace} (hk : kdOf P t = some k) (h : DataW.trod enc P w base spare held fuel t cs = some x) : ∃ v, cs = [v] ∧ Scs [k] [v] := by
  unfold kdOf at hk
  split at hk
  · rename_i hu; cases hk; obtain ⟨b, rfl, _⟩ := DataW.trod_bool hu h; exact ⟨_, rfl, .b .n⟩
  · rename_i kk hu; cases hk; obtain ⟨b, rfl, _⟩ := DataW.trod_int hu h; exact ⟨_, rfl, .i .n⟩
  · rename_i hu; cases hk; obtain ⟨b, rfl, _⟩ := DataW.trod_string hu h; exact ⟨_, rfl, .s .n⟩
  · cases hk
theorem trod_flat {t : TypeId} {ks : List Kd} {fuel : Nat} {cs : List Value} {x : DataW H × List MemPlace} (hf : flatK P t = some ks) (hc : P.cellsOf t = ks.length) (h : DataW.trod enc P w base spare held fuel t cs = some x) : Scs ks cs := by
  unfold flatK at hf
  split at hf
  · rename_i fs hu
    split at hf
    · cases hf
    · obtain ⟨e1, e2⟩ := flatF_get fs.toList 0 ks hf
      obtain ⟨xs, n, _, _, hl, hlen, hx⟩ := DataW.trod_struct hu h
      refine scs_of ks cs (by omega) fun j k hk => ?_
      obtain ⟨f, g1, g2, g3, g4⟩ := e2 j k hk
      have h1 := hx j f (by simpa using g1)
      have hj : j < xs.length := by rw [hlen, ← Array.length_toList, ← e1]; exact lt_of_get hk
      rw [List.getElem?_eq_getElem hj] at h1
      obtain ⟨v, h2, h3⟩ := trod_kd g2 h1
      rw [cellsOf_tyAgg g4, g3, Nat.zero_add] at h2
      refine ⟨v, ?_, h3⟩
      have := congrArg (·[0]?) h2
      simpa [List.getElem?_take] using this
  · cases hf
/-- a slice of such structs, opened: the cells of each element -/
theorem open_flats {t e : TypeId} {ks : List Kd} {fuel : Nat} {a0 : Option Addr} {len cap : Nat} {x : DataW H × List MemPlace} (ht : P.underlying t = some (.slice e)) (hf : flatK P e = some ks) (hc : P.cellsOf e = ks.length)
    (h : DataW.trod enc P w base spare held fuel t [.slice a0 len cap] = some x) : len ≤ maxLen ∧ ∀ i, i < len → ∃ cs, Scs ks cs ∧ (ks ≠ [] → ∃ b off, a0 = some ⟨b, off, none⟩ ∧ ∀ (j : Nat) (v : Value), cs[j]? = some v → w.cell? ⟨b, off + i * ks.length + j, none⟩ = some v) := by
  rcases Go.Deep.open_slice ht h with ⟨hcs, _⟩ | ⟨a, len', cap', m, n, D, Pl, hcs, hb, hl, hm, hmm, _, hx⟩
  · simp at hcs; obtain ⟨_, rfl, _⟩ := hcs
    exact ⟨by decide, fun i hi => by omega⟩
  · simp only [List.cons.injEq, Value.slice.injEq, and_true] at hcs
    obtain ⟨rfl, rfl, rfl⟩ := hcs
    refine ⟨by omega, fun i hi => ?_⟩
    obtain ⟨cs, h1, h2⟩ := hx i (by rw [hmm]; split <;> omega)
    have hs := trod_flat hf hc h2
    refine ⟨cs, hs, fun hne => ?_⟩
    obtain ⟨_, hlen, hcell⟩ := World.cells?_some h1
    obtain ⟨b, off, spot⟩ := a
    have hk : 0 < ks.length := List.length_pos_iff.2 hne
    have hsp : spot = none := by
      obtain ⟨cs0, k1, k2⟩ := hx 0 (by rw [hmm]; split <;> omega)
      obtain ⟨_, hlen0, hcell0⟩ := World.cells?_some k1
      have h0 := hcell0 0 (by omega)
      have : 0 < cs0.length := by omega
      rw [List.getElem?_eq_getElem this] at h0
      have := World.cell?_spot h0
      cases spot with
      | none => rfl
      | some q => simp [Addr.add] at this
    subst hsp
    refine ⟨b, off, rfl, fun j v hj => ?_⟩
    have h0 := hcell j (by have := lt_of_get hj; omega)
    rw [hj, hc] at h0
    rw [addr_add, addr_add] at h0
    exact h0
/-- a slice of scalars, opened -/
theorem open_scalars {t e : TypeId} {k : Kd} {fuel : Nat} {a0 : Option Addr} {len cap : Nat} {x : DataW H × List MemPlace} (ht : P.underlying t = some (.slice e)) (hk : kdOf P e = some k) (hc : P.cellsOf e = 1)
    (h : DataW.trod enc P w base spare held fuel t [.slice a0 len cap] = some x) : len ≤ maxLen ∧ ∀ i, i < len → ∃ v, Scs [k] [v] ∧ ∃ b off, a0 = some ⟨b, off, none⟩ ∧ w.cell? ⟨b, off + i * 1, none⟩ = some v := by
  rcases Go.Deep.open_slice1 ht hc h with ⟨hcs, _⟩ | ⟨a, len', cap', m, n, V, D, Pl, hcs, hb, hl, hm, hmm, _, hx⟩
  · simp at hcs; obtain ⟨_, rfl, _⟩ := hcs
    exact ⟨by decide, fun i hi => by omega⟩
  · simp only [List.cons.injEq, Value.slice.injEq, and_true] at hcs
    obtain ⟨rfl, rfl, rfl⟩ := hcs
    refine ⟨by omega, fun i hi => ?_⟩
    obtain ⟨h1, h2⟩ := hx i (by rw [hmm]; split <;> omega)
    obtain ⟨v, e1, e2⟩ := trod_kd hk h2
    simp at e1
    obtain ⟨b, off, spot⟩ := a
    have hsp : spot = none := by
      obtain ⟨k1, _⟩ := hx 0 (by rw [hmm]; split <;> omega)
      have := World.cell?_spot k1
      cases spot with
      | none => rfl
      | some q => simp [Addr.add] at this
    subst hsp
    refine ⟨v, e2, b, off, rfl, ?_⟩
    rw [addr_add] at h1
    rw [Nat.mul_one, h1, e1]
/-- .. as a list -/
theorem list_of {α : Type} {p : Nat → α → Prop} {n : Nat} (h : ∀ i, i < n → ∃ v, p i v) : ∃ L : List α, L.length = n ∧ ∀ i (hi : i < L.length), p i L[i] := by
  induction n with
  | zero => exact ⟨[], rfl, fun i hi => by simp at hi⟩
  | succ n ih =>
    obtain ⟨L, h1, h2⟩ := ih fun i hi => h i (by omega)
    obtain ⟨v, hv⟩ := h n (by omega)
    refine ⟨L ++ [v], by simp [h1], fun i hi => ?_⟩
    by_cases q : i < L.length
    · rw [List.getElem_append_left q]; exact h2 i q
    · have : i = n := by simp at hi; omega
      subst this
      rw [List.getElem_append_right (by omega)]
      simpa using hv
theorem strings_of {a0 : Option Addr} {len : Nat} (h : ∀ i, i < len → ∃ v, Scs [.s] [v] ∧ ∃ b off, a0 = some ⟨b, off, none⟩ ∧ w.cell? ⟨b, off + i * 1, none⟩ = some v) :
    ∃ L : List (List UInt8), L.length = len ∧ ∀ i (hi : i < L.length), ∃ b off, a0 = some ⟨b, off, none⟩ ∧ w.cell? ⟨b, off + i * 1, none⟩ = some (S L[i]) :=
  list_of (p := fun i l => ∃ b off, a0 = some ⟨b, off, none⟩ ∧ w.cell? ⟨b, off + i * 1, none⟩ = some (S l)) fun i hi => by
    obtain ⟨v, h1, h2⟩ := h i hi
    cases h1 with
    | @s x _ _ _ => exact ⟨x.data.toList, by simpa [S] using h2⟩
theorem bools_of {a0 : Option Addr} {len : Nat} (h : ∀ i, i < len → ∃ v, Scs [.b] [v] ∧ ∃ b off, a0 = some ⟨b, off, none⟩ ∧ w.cell? ⟨b, off + i * 1, none⟩ = some v) :
    ∃ L : List Bool, L.length = len ∧ ∀ i (hi : i < L.length), ∃ b off, a0 = some ⟨b, off, none⟩ ∧ w.cell? ⟨b, off + i * 1, none⟩ = some (.bool L[i]) :=
  list_of (p := fun i l => ∃ b off, a0 = some ⟨b, off, none⟩ ∧ w.cell? ⟨b, off + i * 1, none⟩ = some (.bool l)) fun i hi => by
    obtain ⟨v, h1, h2⟩ := h i hi
    cases h1 with
    | @b x _ _ _ => exact ⟨x, h2⟩
end
end Sx
end Go.Proofs.Ytkofbanncacamaa
