/- Part 6 of the texts of DmJ. -/
import Derived.Test.YtdgphamhpjnmpaaWa5
import Derived.Below
import Derived.Deep.Slices
import Derived.KernelRfl
import Derived.Laws.Append
import Derived.Laws.Build
import Derived.Laws.BytesString
import Derived.Laws.Cells
import Derived.Laws.Concat
import Derived.Laws.Entries
import Derived.Laws.MakeOwn
import Derived.Laws.Slices
import Derived.Laws.Strings
import Derived.Laws.Strings2
import Derived.Laws.StructEq
import Derived.Lib.Strings
import Derived.Lib.UnsafeStr
import Derived.Orders
import Derived.OrdersHeld
import Derived.OrdersIn
import Derived.ProofKit
import Derived.RangeFuncCalls
import Derived.RangeFuncIn
import Derived.RangeFuncLeaves
import Derived.RangeFuncRecord
import Derived.Shelf.Bits.Mul64
import Derived.Shelf.Strings.Builder1
import Derived.Shelf.Strings.Builder2
import Derived.Shelf.Strings.BuilderF
import Derived.Shelf.Strings.Prefix
import Derived.Shelf.Strings.Repeat
import Derived.Tactics
import Derived.TacticsIn
import Derived.Test.YtdgphamhpjnmpaaProg
import Derived.Test.YtdgphamhpjnmpaaRows
/- Plain: muxes and their reference agree. -/
namespace Go.Proofs.Ytdgphamhpjnmpaa
namespace Sx

structure MS (size : Int) (s : Src) (t : RSrc) : Prop where
  prio : s.prio = t.prio
  share : s.share = t.share
  credit : s.credit = t.credit
  count : s.count = t.count
  fr : FR s.fl t.fl
  sz : (t.fl.size : Int) = size
  bp : 0 ≤ t.prio ∧ t.prio ≤ 7
  bs : 1 ≤ t.share ∧ t.share ≤ 100
  bc : 0 ≤ t.credit ∧ t.credit ≤ 100
  bn : 0 ≤ t.count ∧ t.count ≤ 255
structure ML (size : Int) (l : List Src) (r : List RSrc) : Prop where
  ll : l.length = 8
  rl : r.length = 8
  ms : ∀ (i : Nat) (s : Src) (t : RSrc), l[i]? = some s → r[i]? = some t → MS size s t
structure MR (M : Mx) (R : RMx) : Prop where
  craft : M.craft = R.craft
  size : M.size = R.size
  master : M.master = R.master
  bm : 0 ≤ R.master ∧ R.master ≤ 255
  bz : 32 ≤ R.size ∧ R.size ≤ 200
  ml : ML R.size M.l R.l
section
variable {size : Int} {l : List Src} {r : List RSrc}
theorem ML.at (h : ML size l r) {i : Nat} (hi : i < 8) : ∃ s t, l[i]? = some s ∧ r[i]? = some t ∧ MS size s t := by
  obtain ⟨s, h1⟩ : ∃ s, l[i]? = some s := ⟨_, List.getElem?_eq_getElem (by rw [h.ll]; exact hi)⟩
  obtain ⟨t, h2⟩ : ∃ t, r[i]? = some t := ⟨_, List.getElem?_eq_getElem (by rw [h.rl]; exact hi)⟩
  exact ⟨_, _, h1, h2, h.ms i _ _ h1 h2⟩
theorem ML.none (h : ML size l r) {i : Nat} (hi : ¬ i < 8) : l[i]? = none ∧ r[i]? = none :=
  ⟨List.getElem?_eq_none (by rw [h.ll]; omega), List.getElem?_eq_none (by rw [h.rl]; omega)⟩
theorem ML.sw (h : ML size l r) : sw l = rwt r := by
  funext i
  by_cases hi : i < 8
  · obtain ⟨s, t, h1, h2, m⟩ := h.at hi
    rw [Sx.sw, rwt, h1, h2]; exact m.fr.wait
  · obtain ⟨h1, h2⟩ := h.none hi
    rw [Sx.sw, rwt, h1, h2]
theorem ML.spr (h : ML size l r) : spr l = rpr r := by
  funext i
  by_cases hi : i < 8
  · obtain ⟨s, t, h1, h2, m⟩ := h.at hi
    rw [Sx.spr, rpr, h1, h2]; exact m.prio
  · obtain ⟨h1, h2⟩ := h.none hi
    rw [Sx.spr, rpr, h1, h2]
theorem ML.scr (h : ML size l r) : scr l = rcr r := by
  funext i
  by_cases hi : i < 8
  · obtain ⟨s, t, h1, h2, m⟩ := h.at hi
    rw [Sx.scr, rcr, h1, h2]; exact m.credit
  · obtain ⟨h1, h2⟩ := h.none hi
    rw [Sx.scr, rcr, h1, h2]
theorem ML.sok (h : ML size l r) : ∀ s ∈ l, s.ok ∧ 0 ≤ s.count ∧ s.count ≤ 255 := by
  intro s hs
  obtain ⟨i, hi⟩ := List.mem_iff_getElem?.1 hs
  obtain ⟨s', t, h1, h2, m⟩ := h.at (by have := lt_of_get hi; rw [h.ll] at this; exact this)
  rw [hi] at h1; cases h1
  exact ⟨⟨by rw [m.credit]; have := m.bc; omega, by rw [m.share]; have := m.bs; omega, m.fr.ok⟩, by rw [m.count]; exact m.bn.1, by rw [m.count]; exact m.bn.2⟩
theorem total_ok {F : Fl} {G : Rf} (h : FR F G) : G.ok := ⟨h.sz, by have := total_ne _ h.ne; have := h.tot; omega, by have := h.tot; omega, by have := h.rl; omega⟩
theorem ML.tok (h : ML size l r) : ∀ t ∈ r, t.ok ∧ 0 ≤ t.count ∧ t.count ≤ 255 := by
  intro t ht
  obtain ⟨i, hi⟩ := List.mem_iff_getElem?.1 ht
  obtain ⟨s, t', h1, h2, m⟩ := h.at (by have := lt_of_get hi; rw [h.rl] at this; exact this)
  rw [hi] at h2; cases h2
  exact ⟨⟨by have := m.bp; omega, by have := m.bc; omega, by have := m.bs; omega, total_ok m.fr⟩, m.bn⟩
theorem ML.set (h : ML size l r) {k : Nat} {s : Src} {t : RSrc} (hm : MS size s t) : ML size (l.set k s) (r.set k t) := by
  refine ⟨by rw [List.length_set]; exact h.ll, by rw [List.length_set]; exact h.rl, fun i s' t' h1 h2 => ?_⟩
  by_cases e : i = k
  · subst e
    have hl := lt_of_get h1
    have hr := lt_of_get h2
    rw [List.length_set] at hl hr
    rw [List.getElem?_set_self hl] at h1
    rw [List.getElem?_set_self hr] at h2
    cases h1; cases h2; exact hm
  · rw [List.getElem?_set_ne (Ne.symm e)] at h1 h2
    exact h.ms i s' t' h1 h2
theorem ML.map (h : ML size l r) {f : Src → Src} {g : RSrc → RSrc} (hf : ∀ s t, MS size s t → MS size (f s) (g t)) : ML size (l.map f) (r.map g) := by
  refine ⟨by rw [List.length_map]; exact h.ll, by rw [List.length_map]; exact h.rl, fun i s t h1 h2 => ?_⟩
  rw [List.getElem?_map] at h1 h2
  cases e1 : l[i]? with
  | none => rw [e1] at h1; cases h1
  | some s0 => cases e2 : r[i]? with
    | none => rw [e2] at h2; cases h2
    | some t0 =>
      rw [e1] at h1; rw [e2] at h2
      simp only [Option.map_some, Option.some.injEq] at h1 h2
      subst h1; subst h2
      exact hf _ _ (h.ms i s0 t0 e1 e2)
end
theorem bestL_spec (f : Nat → Int) {l : List Nat} (hne : l ≠ []) : ∃ M, (∀ i ∈ l, f i ≤ M) ∧ (∃ i ∈ l, f i = M) ∧ bestL f l = l.filter (fun i => decide (f i = M)) := by
  obtain ⟨l', a, rfl⟩ : ∃ l' a, l = l' ++ [a] := ⟨l.dropLast, l.getLast hne, (List.dropLast_concat_getLast hne).symm⟩
  induction h : l'.length generalizing l' a with
  | zero =>
    have : l' = [] := List.eq_nil_of_length_eq_zero h
    subst this
    refine ⟨f a, by simp, ⟨a, by simp, rfl⟩, ?_⟩
    simp [bestL, bestS]
  | succ n ih =>
    have hne' : l' ≠ [] := fun q => by rw [q] at h; cases h
    obtain ⟨l2, b, rfl⟩ : ∃ l2 b, l' = l2 ++ [b] := ⟨l'.dropLast, l'.getLast hne', (List.dropLast_concat_getLast hne').symm⟩
    obtain ⟨M, h1, ⟨j, hj, hjM⟩, h3⟩ := ih l2 b (by simp) (by simpa using h)
    rw [bestL_snoc, h3]
    generalize l2 ++ [b] = l' at h1 hj ⊢
    have hjf : j ∈ l'.filter (fun i => decide (f i = M)) := List.mem_filter.2 ⟨hj, by simpa using hjM⟩
    obtain ⟨o, os, ho⟩ : ∃ o os, l'.filter (fun i => decide (f i = M)) = o :: os := by
      cases e : l'.filter (fun i => decide (f i = M)) with
      | nil => rw [e] at hjf; cases hjf
      | cons o os => exact ⟨o, os, rfl⟩
    have hoM : f o = M := by
      have : o ∈ l'.filter (fun i => decide (f i = M)) := by rw [ho]; exact List.mem_cons_self ..
      simpa using (List.mem_filter.1 this).2
    rw [ho]
    by_cases c1 : M < f a
    · refine ⟨f a, ?_, ⟨a, by simp, rfl⟩, ?_⟩
      · intro i hi
        simp only [List.mem_append, List.mem_singleton] at hi
        rcases hi with hi | rfl
        · have := h1 i hi; omega
        · exact Int.le_refl _
      · rw [bestS, if_pos (by rw [hoM]; exact c1), List.filter_append]
        have : l'.filter (fun i => decide (f i = f a)) = [] := by
          rw [List.filter_eq_nil_iff]; intro i hi; have := h1 i hi; simp; omega
        rw [this]; simp
    · refine ⟨M, ?_, ⟨j, by simp [hj], hjM⟩, ?_⟩
      · intro i hi
        simp only [List.mem_append, List.mem_singleton] at hi
        rcases hi with hi | rfl
        · exact h1 i hi
        · omega
      · rw [bestS, if_neg (by rw [hoM]; exact c1), List.filter_append, ho]
        by_cases c2 : f a = M
        · rw [if_pos (by rw [hoM]; exact c2), List.filter_cons_of_pos (by simpa using c2)]; rfl
        · rw [if_neg (by rw [hoM]; exact c2), List.filter_cons_of_neg (by simpa using c2)]; simp
section
variable {size : Int} {l : List Src} {r : List RSrc}
theorem full_eq (h : ML size l r) (hs : 1 ≤ size) (hne : waitL l ≠ []) : bestL (fun i => min (sw l i / size) 1) (waitL l) = rL size r := by
  obtain ⟨M, h1, ⟨j, hj, hjM⟩, h3⟩ := bestL_spec (fun i => min (sw l i / size) 1) hne
  rw [h3]
  have hw : ∀ i, 0 < sw l i → (size ≤ sw l i ↔ 1 ≤ sw l i / size) := fun i hi => by
    constructor
    · intro q; exact (Int.le_ediv_iff_mul_le (by omega)).2 (by omega)
    · intro q; have := (Int.le_ediv_iff_mul_le (by omega)).1 q; omega
  have hnn : ∀ i, 0 < sw l i → 0 ≤ sw l i / size := fun i hi => Int.ediv_nonneg (by omega) (by omega)
  have hjw : 0 < sw l j := by simpa using (List.mem_filter.1 hj).2
  have hsw := h.sw
  by_cases c : rAt r size = []
  · -- none is full
    have hall : ∀ i ∈ waitL l, ¬ size ≤ sw l i := by
      intro i hi q
      have : i ∈ rAt r size := List.mem_filter.2 ⟨(List.mem_filter.1 hi).1, by rw [← hsw]; simpa using q⟩
      rw [c] at this; cases this
    have hM : M = 0 := by
      have h4 := hall j hj
      have h5 := (not_congr (hw j hjw)).1 h4
      have := hnn j hjw
      omega
    rw [rL, if_pos c]
    have e1 : (waitL l).filter (fun i => decide (min (sw l i / size) 1 = M)) = waitL l := by
      rw [List.filter_eq_self]
      intro i hi
      have hiw : 0 < sw l i := by simpa using (List.mem_filter.1 hi).2
      have h4 := (not_congr (hw i hiw)).1 (hall i hi)
      have := hnn i hiw
      simp only [decide_eq_true_eq]; omega
    rw [e1, waitL, rAt, hsw]
    apply List.filter_congr
    intro i _
    exact decide_eq_decide.2 (by omega)
  · obtain ⟨i0, hi0⟩ := List.exists_mem_of_ne_nil _ c
    have hi0' := List.mem_filter.1 hi0
    have hi0w : size ≤ sw l i0 := by rw [hsw]; simpa using hi0'.2
    have hi0m : i0 ∈ waitL l := List.mem_filter.2 ⟨hi0'.1, by simp; omega⟩
    have hM : M = 1 := by
      have h4 := h1 i0 hi0m
      have h5 := (hw i0 (by omega)).1 hi0w
      omega
    rw [rL, if_neg c, waitL, List.filter_filter, rAt]
    apply List.filter_congr
    intro i _
    rw [← hsw, ← Bool.decide_and]
    apply decide_eq_decide.2
    constructor
    · intro q
      exact (hw i q.2).2 (by have := q.1; omega)
    · intro q
      have h5 := (hw i (by omega)).1 q
      exact ⟨by omega, by omega⟩
theorem wait_nil (h : ML size l r) (hs : 1 ≤ size) : waitL l = [] ↔ rL size r = [] := by
  constructor
  · intro q
    have e1 : rAt r 1 = [] := by
      rw [rAt, ← h.sw, ← q, waitL]
      apply List.filter_congr
      intro i _
      exact decide_eq_decide.2 (by omega)
    have e2 : rAt r size = [] := by
      rw [List.eq_nil_iff_forall_not_mem]
      intro i hi
      have := List.mem_filter.1 hi
      have h2 : i ∈ rAt r 1 := List.mem_filter.2 ⟨this.1, by have := this.2; simp at this ⊢; omega⟩
      rw [e1] at h2; cases h2
    rw [rL, if_pos e2, e1]
  · intro q
    refine Decidable.of_not_not fun hne => ?_
    have := full_eq h hs hne
    rw [q] at this
    exact bestL_ne _ hne this
theorem lu_eq (h : ML size l r) (hs : 1 ≤ size) (hne : waitL l ≠ []) : lu size l = onG r (gmx r (rL size r)) (rL size r) := by
  have hrne : rL size r ≠ [] := fun q => hne ((wait_nil h hs).2 q)
  rw [lu, full_eq h hs hne]
  obtain ⟨M, h1, ⟨j, hj, hjM⟩, h3⟩ := bestL_spec (spr l) hrne
  rw [h3, onG, h.spr]
  rw [h.spr] at h1 hjM
  obtain ⟨i, hi, he⟩ := gmx_mem (l := r) hrne (fun i hi => by
    obtain ⟨s, t, _, h2, m⟩ := h.at (rL_lt hi)
    rw [rpr, h2]; exact m.bp.1)
  have hM : M = gmx r (rL size r) := by
    have h4 := h1 i hi
    have h5 := (gmx_ge r (rL size r) 0).2 j hj
    have h6 : gmx r (rL size r) = (rL size r).foldl (fun a i => max a (rpr r i)) 0 := rfl
    omega
  rw [hM]
theorem spent_eq (h : ML size l r) {U : List Nat} (hne : U ≠ []) : scr l (hd (bestL (scr l) U)) = 0 ↔ spentB r U = true := by
  obtain ⟨M, h1, _, h3⟩ := bestL_spec (scr l) hne
  have hm := hd_mem (bestL_ne (scr l) hne)
  rw [h3] at hm
  have hM : scr l (hd (U.filter fun i => decide (scr l i = M))) = M := by simpa using (List.mem_filter.1 hm).2
  rw [h3, hM, spentB, List.all_eq_true]
  have hnn : ∀ i, 0 ≤ scr l i := fun i => by
    by_cases hi : i < 8
    · obtain ⟨s, t, h4, _, m⟩ := h.at hi
      rw [scr, h4]; show 0 ≤ s.credit; rw [m.credit]; exact m.bc.1
    · rw [scr, (h.none hi).1]; exact Int.le_refl _
  rw [← h.scr]
  constructor
  · intro q i hi
    have := h1 i hi
    simp; omega
  · intro q
    have h5 := q _ (List.mem_filter.1 hm).1
    rw [hM] at h5
    have := hnn (hd (U.filter fun i => decide (scr l i = M)))
    rw [hM] at this
    simp at h5; omega
theorem refill_ms {g : Int} {s : Src} {t : RSrc} (m : MS size s t) : MS size (refill g s) (rrefill g t) := by
  unfold refill rrefill
  by_cases c : t.prio = g
  · rw [if_pos (m.prio.trans c), if_pos c]
    exact ⟨m.prio, m.share, m.share, m.count, m.fr, m.sz, m.bp, m.bs, by have := m.bs; simp only; omega, m.bn⟩
  · rw [if_neg (fun q => c (m.prio.symm.trans q)), if_neg c]; exact m
theorem choose_eq (h : ML size l r) (hs : 1 ≤ size) : (chooseL size l).1 = (rchoose size r).1 ∧ ML size (chooseL size l).2 (rchoose size r).2 := by
  unfold chooseL rchoose
  by_cases hne : waitL l = []
  · rw [if_pos hne, if_pos ((wait_nil h hs).1 hne)]; exact ⟨rfl, h⟩
  · rw [if_neg hne, if_neg (fun q => hne ((wait_nil h hs).2 q))]
    simp only
    have hu := lu_eq h hs hne
    have hune := lu_ne (size := size) hne
    have hg : spr l (hd (lu size l)) = gmx r (rL size r) := by
      have := hd_mem hune
      rw [hu] at this ⊢
      rw [h.spr]; simpa using (List.mem_filter.1 this).2
    rw [hg, hu]
    rw [hu] at hune
    have hUg : ∀ i ∈ onG r (gmx r (rL size r)) (rL size r), rpr r i = gmx r (rL size r) ∧ i < 8 := fun i hi => by
      have := List.mem_filter.1 hi
      exact ⟨by simpa using this.2, rL_lt this.1⟩
    generalize onG r (gmx r (rL size r)) (rL size r) = U at hune hUg ⊢
    generalize gmx r (rL size r) = g at hUg ⊢
    have hsp := spent_eq h hune
    have h1 : ML size (if scr l (hd (bestL (scr l) U)) = 0 then l.map (refill g) else l) (if spentB r U = true then r.map (rrefill g) else r) := by
      by_cases c : scr l (hd (bestL (scr l) U)) = 0
      · rw [if_pos c, if_pos (hsp.1 c)]; exact h.map fun s t m => refill_ms m
      · rw [if_neg c, if_neg (fun q => c (hsp.2 q))]; exact h
    have hpos : ∃ i ∈ U, 0 < rcr (if spentB r U = true then r.map (rrefill g) else r) i := by
      by_cases c : spentB r U = true
      · rw [if_pos c]
        refine ⟨hd U, hd_mem hune, ?_⟩
        obtain ⟨hp, h8⟩ := hUg _ (hd_mem hune)
        obtain ⟨s, t, _, h2, m⟩ := h.at h8
        rw [rcr, List.getElem?_map, h2]
        rw [rpr, h2] at hp
        show 0 < (rrefill g t).credit
        rw [rrefill, if_pos hp]
        have := m.bs; simp only; omega
      · rw [if_neg c]
        rw [spentB, List.all_eq_true] at c
        refine Decidable.of_not_not fun q => c fun i hi => ?_
        have : ¬ 0 < rcr r i := fun w => q ⟨i, hi, w⟩
        simpa using this
    generalize (if scr l (hd (bestL (scr l) U)) = 0 then l.map (refill g) else l) = l1 at h1 ⊢
    generalize (if spentB r U = true then r.map (rrefill g) else r) = r1 at h1 hpos ⊢
    rw [h1.scr]
    refine ⟨rfl, ?_⟩
    have hcr : 0 < rcr r1 (hd (bestL (rcr r1) U)) := by
      obtain ⟨M, k1, _, k3⟩ := bestL_spec (rcr r1) hune
      obtain ⟨i, hi, hp⟩ := hpos
      have := k1 i hi
      have hm := hd_mem (bestL_ne (rcr r1) hune)
      rw [k3] at hm ⊢
      have e := (List.mem_filter.1 hm).2
      simp only [decide_eq_true_eq] at e
      omega
    have ho := (hUg _ (bestL_sub _ (hd_mem (bestL_ne (rcr r1) hune)))).2
    generalize hd (bestL (rcr r1) U) = o at hcr ho ⊢
    obtain ⟨s, t, e1, e2, m⟩ := h1.at ho
    rw [rcr, e2] at hcr
    rw [e1, e2]
    exact h1.set ⟨m.prio, m.share, congrArg (· - 1) m.credit, m.count, m.fr, m.sz, m.bp, m.bs, by have := m.bc; show 0 ≤ t.credit - 1 ∧ t.credit - 1 ≤ 100; simp only at hcr; omega, m.bn⟩
end
theorem MR.good {M : Mx} {R : RMx} (h : MR M R) : M.good ∧ R.good := by
  have hz := h.bz
  refine ⟨⟨h.ml.ll, fun s hs => (h.ml.sok s hs).1, by rw [h.size]; exact hz, by rw [h.master]; exact h.bm, fun s hs => (h.ml.sok s hs).2⟩, ⟨h.ml.rl, fun s hs => (h.ml.tok s hs).1, hz, h.bm, fun s hs => (h.ml.tok s hs).2⟩⟩
theorem MR.mok {M : Mx} {R : RMx} (h : MR M R) : M.ok ∧ R.ok := ⟨⟨h.ml.ll, fun s hs => (h.ml.sok s hs).1.fl⟩, ⟨h.ml.rl, fun s hs => (h.ml.tok s hs).1.fl⟩⟩
theorem MR.wait {M : Mx} {R : RMx} (h : MR M R) (ch : Int) : mxWait M ch = rmWait R ch := by
  unfold mxWait rmWait
  by_cases hc : 0 ≤ ch ∧ ch < 8
  · rw [if_pos hc, if_pos hc]
    obtain ⟨s, t, h1, h2, m⟩ := h.ml.at (i := ch.toNat) (by omega)
    rw [h1, h2]; exact m.fr.wait
  · rw [if_neg hc, if_neg hc]
theorem rfAdd_size (G : Rf) (l : List UInt8) : (rfAdd G l).1.size = G.size := by
  unfold rfAdd; split
  · rfl
  · split <;> rfl
theorem rfNext_size (G : Rf) : (rfNext G).2.2.2.size = G.size := by
  unfold rfNext; split
  · rfl
  · simp only; split <;> rfl
theorem MR.add {M : Mx} {R : RMx} (h : MR M R) (ch : Int) (p : List UInt8) : (mxAdd M ch p).2 = (rmAdd R ch p).2 ∧ MR (mxAdd M ch p).1 (rmAdd R ch p).1 := by
  unfold mxAdd rmAdd
  by_cases hc : 0 ≤ ch ∧ ch < 8
  · rw [if_pos hc, if_pos hc]
    obtain ⟨s, t, h1, h2, m⟩ := h.ml.at (i := ch.toNat) (by omega)
    rw [h1, h2]
    obtain ⟨e1, e2⟩ := m.fr.add p
    exact ⟨e1, h.craft, h.size, h.master, h.bm, h.bz, h.ml.set ⟨m.prio, m.share, m.credit, m.count, e2, by have := m.sz; simp only [rfAdd_size]; exact this, m.bp, m.bs, m.bc, m.bn⟩⟩
  · rw [if_neg hc, if_neg hc]; exact ⟨rfl, h⟩
theorem MR.clear {M : Mx} {R : RMx} (h : MR M R) : MR { M with master := 0, l := M.l.map clr } { R with master := 0, l := R.l.map rclr } :=
  ⟨h.craft, h.size, rfl, by simp, h.bz, h.ml.map fun s t m => ⟨m.prio, m.share, rfl, rfl, m.fr.clear, m.sz, m.bp, m.bs, by simp [rclr], by simp [rclr]⟩⟩
theorem MR.nxt {M : Mx} {R : RMx} (h : MR M R) : (nxt M).1 = (rnxt R).1 ∧ (nxt M).2.1 = (rnxt R).2.1 ∧ (nxt M).2.2.1 = (rnxt R).2.2.1 ∧ (nxt M).1 < 8 ∧ ML R.size (nxt M).2.2.2 (rnxt R).2.2.2 := by
  have hz := h.bz
  obtain ⟨e1, e2⟩ := choose_eq (size := R.size) h.ml (by omega)
  have hlt := fun o => @chooseL_lt R.size M.l o
  unfold Sx.nxt rnxt
  rw [h.size]
  rw [← e1]
  generalize chooseL R.size M.l = c at e1 e2 hlt ⊢
  generalize rchoose R.size R.l = d at e1 e2 ⊢
  obtain ⟨oo, l1⟩ := c
  obtain ⟨oo', r1⟩ := d
  simp only at e1 e2 hlt ⊢
  cases oo with
  | none => exact ⟨rfl, rfl, rfl, show 7 < 8 by decide, e2⟩
  | some o =>
    have ho := hlt o rfl
    obtain ⟨s, t, g1, g2, m⟩ := e2.at ho
    simp only [g1, g2]
    obtain ⟨f1, f2, _, f4⟩ := m.fr.next
    exact ⟨trivial, f1, f2, ho, e2.set ⟨m.prio, m.share, m.credit, m.count, f4, by have := m.sz; simp only [rfNext_size]; exact this, m.bp, m.bs, m.bc, m.bn⟩⟩
theorem MR.next {M : Mx} {R : RMx} (h : MR M R) (word : Int) : frameOf M word = rframeOf R word ∧ MR (mxNext M) (rmNext R) := by
  obtain ⟨e1, e2, e3, e4, e5⟩ := h.nxt
  unfold frameOf rframeOf mxNext rmNext
  rw [e1] at e4 ⊢
  rw [e2, e3, h.craft, h.master]
  obtain ⟨s, t, g1, g2, m⟩ := e5.at e4
  have c1 : cntAt (Sx.nxt M).2.2.2 (rnxt R).1 = t.count := by rw [cntAt, g1]; exact m.count
  have c2 : rcntAt (rnxt R).2.2.2 (rnxt R).1 = t.count := by rw [rcntAt, g2]
  have c3 : incAt (Sx.nxt M).2.2.2 (rnxt R).1 = (Sx.nxt M).2.2.2.set (rnxt R).1 (inc s) := by rw [incAt, g1]
  have c4 : rincAt (rnxt R).2.2.2 (rnxt R).1 = (rnxt R).2.2.2.set (rnxt R).1 (rinc t) := by rw [rincAt, g2]
  rw [c1, c2, c3, c4]
  refine ⟨rfl, rfl, h.size, rfl, ?_, h.bz, e5.set ⟨m.prio, m.share, m.credit, ?_, m.fr, m.sz, m.bp, m.bs, m.bc, ?_⟩⟩
  · have := h.bm; simp only; omega
  · show (s.count + 1) % 256 = (t.count + 1) % 256
    rw [m.count]
  · show 0 ≤ (t.count + 1) % 256 ∧ (t.count + 1) % 256 ≤ 255
    omega
end Sx
end Go.Proofs.Ytdgphamhpjnmpaa

/- New muxes. -/
namespace Go.Proofs.Ytdgphamhpjnmpaa
namespace Sx

theorem Sat.nilE {w : World} {As : List HP} (h : Sat w As) {A : HP} (hA : A fun _ => none) : Sat w (As ++ [A]) := by
  obtain ⟨H, al⟩ := h
  refine ⟨fun j => if j < As.length then H j else fun _ => none, fun j B hj => ?_, fun j k hj hk hjk => ?_, fun j hj => ?_⟩
  · by_cases q : j < As.length
    · rw [List.getElem?_append_left q] at hj; simp only [if_pos q]; exact al.ok j B hj
    · have hj' : j = As.length := by have := lt_of_get hj; simp at this; omega
      subst hj'; simp at hj; subst hj; simpa using hA
  · by_cases q : j < As.length
    · rw [if_pos q]
      by_cases q' : k < As.length
      · rw [if_pos q']; exact al.dj j k q q' hjk
      · rw [if_neg q']; exact fun _ => .inr rfl
    · rw [if_neg q]; exact fun _ => .inl rfl
  · by_cases q : j < As.length
    · rw [if_pos q]; exact al.inn j q
    · rw [if_neg q]; exact fun _ _ x => by cases x
theorem fil_new {p s : Nat} {g : Hl} (hg : frow p none 0 0 none 0 0 (s : Int) 0 g) : filA p ⟨[], [], s, 0⟩ g :=
  fil_in (ad := none) (c := 0) (ad' := none) (c' := 0) ⟨g, fun _ => none, fun _ => .inr rfl, fun k => by simp, hg, fun _ => none, fun _ => none, fun _ => .inl rfl, fun _ => rfl, ownO_nil _ _ _, ownS_nil _ _ _⟩
theorem rfil_new {p s : Nat} {g : Hl} (hg : rrow p none 0 0 (s : Int) false [] g) : rfilA p ⟨s, [], false, []⟩ g := by
  refine ⟨((none : Option Addr), 0), ?_⟩
  exact ⟨g, fun _ => none, fun _ => .inr rfl, fun k => by simp, hg, ownS_nil _ _ _⟩
def inR (prio share : List Int) (i : Nat) : Prop := 0 ≤ prio.getD i 0 ∧ prio.getD i 0 ≤ 7 ∧ 1 ≤ share.getD i 0 ∧ share.getD i 0 ≤ 100
def okN (craft size : Int) (prio share : List Int) : Prop := 0 ≤ craft ∧ craft ≤ 255 ∧ 32 ≤ size ∧ size ≤ 200 ∧ ∀ i, i < 8 → inR prio share i
def NewL (size : Nat) (prio share : List Int) (k : Nat) (l : List Src) : Prop := l.length = k ∧ ∀ (i : Nat) (s : Src), l[i]? = some s → ∃ p : Nat, s = ⟨p, prio.getD i 0, share.getD i 0, 0, 0, ⟨[], [], size, 0⟩⟩
def NewR (size : Nat) (prio share : List Int) (k : Nat) (l : List RSrc) : Prop := l.length = k ∧ ∀ (i : Nat) (s : RSrc), l[i]? = some s → ∃ p : Nat, s = ⟨p, prio.getD i 0, share.getD i 0, 0, 0, ⟨size, [], false, []⟩⟩
theorem NewL.snoc {size : Nat} {prio share : List Int} {k : Nat} {l : List Src} (h : NewL size prio share k l) (p : Nat) : NewL size prio share (k + 1) (l ++ [⟨p, prio.getD k 0, share.getD k 0, 0, 0, ⟨[], [], size, 0⟩⟩]) := by
  obtain ⟨h1, h2⟩ := h
  subst h1
  refine ⟨by rw [List.length_append]; rfl, fun i s hi => ?_⟩
  by_cases q : i < l.length
  · rw [List.getElem?_append_left q] at hi; exact h2 i s hi
  · have hlt := lt_of_get hi
    rw [List.length_append, List.length_singleton] at hlt
    have : i = l.length := by omega
    subst this
    rw [List.getElem?_append_right (Nat.le_refl _), Nat.sub_self] at hi
    simp only [List.getElem?_cons_zero, Option.some.injEq] at hi
    exact ⟨p, hi.symm⟩
theorem NewR.snoc {size : Nat} {prio share : List Int} {k : Nat} {l : List RSrc} (h : NewR size prio share k l) (p : Nat) : NewR size prio share (k + 1) (l ++ [⟨p, prio.getD k 0, share.getD k 0, 0, 0, ⟨size, [], false, []⟩⟩]) := by
  obtain ⟨h1, h2⟩ := h
  subst h1
  refine ⟨by rw [List.length_append]; rfl, fun i s hi => ?_⟩
  by_cases q : i < l.length
  · rw [List.getElem?_append_left q] at hi; exact h2 i s hi
  · have hlt := lt_of_get hi
    rw [List.length_append, List.length_singleton] at hlt
    have : i = l.length := by omega
    subst this
    rw [List.getElem?_append_right (Nat.le_refl _), Nat.sub_self] at hi
    simp only [List.getElem?_cons_zero, Option.some.injEq] at hi
    exact ⟨p, hi.symm⟩
theorem New.mr {craft : Int} {size : Nat} {prio share : List Int} {l : List Src} {r : List RSrc} (hok : okN craft size prio share) (h : NewL size prio share 8 l) (h' : NewR size prio share 8 r) : MR ⟨craft, size, 0, l⟩ ⟨craft, size, 0, r⟩ := by
  obtain ⟨_, _, h3, h4, h5⟩ := hok
  refine ⟨rfl, rfl, rfl, by simp, ⟨h3, h4⟩, h.1, h'.1, fun i s t e1 e2 => ?_⟩
  obtain ⟨p, rfl⟩ := h.2 i s e1
  obtain ⟨q, rfl⟩ := h'.2 i t e2
  have hi := h5 i (by have := lt_of_get e1; rw [h.1] at this; exact this)
  exact ⟨rfl, rfl, rfl, rfl, FR.new (by omega), rfl, ⟨hi.1, hi.2.1⟩, ⟨hi.2.2.1, hi.2.2.2⟩, by simp, by simp⟩
theorem getD_iv {l : List Int} {i : Nat} (hi : i < l.length) : (iv l)[0 + i * 1]? = some (.int .i64 (l.getD i 0)) := by
  rw [Nat.zero_add, Nat.mul_one]
  exact iv_get (by rw [List.getD, List.getElem?_eq_getElem hi]; rfl)
theorem srcs_snoc (l : List Src) (s : Src) : srcs (l ++ [s]) = srcs l ++ srcC s := by
  rw [srcs, srcs, List.map_append, flat, flat, List.flatten_append]; simp
theorem newmux_ok {craft size : Int} {prio share : List Int} (hp : prio.length = 8) (hs : share.length = 8) : Fn Try.prog 15 #[.int .i64 craft, .int .i64 size, .agg (iv prio).toArray, .agg (iv share).toArray] []
    (Ret fun v Q => (okN craft size prio share → ∃ m b c extra l, v = .tuple #[P1 m 0, .int .i64 0] ∧ NewL size.toNat prio share 8 l ∧ Q = mux3 m b c extra ⟨craft, size, 0, l⟩) ∧ (¬ okN craft size prio share → v = .tuple #[.pointer none, .int .i64 2])) := by
  have hpl : (iv prio).length = 8 := by rw [iv_len, hp]
  have hsl : (iv share).length = 8 := by rw [iv_len, hs]
  by_cases hcr : 0 ≤ craft ∧ craft ≤ 255
  · refine Fn.of (args := _) Try.func15 rfl Try.ntmps15 rfl ?_
    intro w0 g0
    refine KW.turn (fun w hs => (hs.nil1 (A := ownS 104 5 (.slice none 0 0) 0 []) (fun g => ownS_nil _ _ g)).nilE (A := fils []) rfl) ?_
    simp only [List.cons_append, List.nil_append]
    refine CW.seq ?_
    refine CW.region ?_
    refine LW.opBA (ob_box rfl .agg (fun _ => .c (.c (.c (.n))))) rfl rfl (fun b6 => ?_)
    refine LW.opBA (ob_box rfl .agg (fun _ => .c (.c (.c (.c (.n)))))) rfl rfl (fun b7 => ?_)
    refine LW.v (ov_assign rfl) ?_
    refine LW.v (ov_assign rfl) ?_
    refine LW.nil ?_
    refine KW.thenN ?_
    refine CW.seq ?_
    refine CW.seq ?_
    refine CW.region ?_
    refine LW.v (ov_move rfl) ?_
    refine LW.v (OpV.eq (ov_lss rfl rfl) (congrArg Value.bool (decide_eq_false (by first | omega | assumption)))) ?_
    refine LW.v (ov_move rfl) ?_
    refine LW.v (ov_move rfl) ?_
    refine LW.v (OpV.eq (ov_gtr rfl rfl) (congrArg Value.bool (decide_eq_false (by first | omega | assumption)))) ?_
    first | refine LW.v (ov_pickT rfl rfl) ?_ | refine LW.v (ov_pickF rfl rfl) ?_ | refine LW.v (ov_pick rfl rfl rfl) ?_
    refine LW.nil ?_
    refine KW.thenN ?_
    refine CW.condF rfl rfl ?_
    refine CW.skip ?_
    refine KW.thenN ?_
    refine CW.seq ?_
    refine CW.region ?_
    refine LW.v (ov_move rfl) ?_
    refine LW.v (ov_move rfl) ?_
    refine LW.v (ov_build zc69 pl69 rfl (.c rfl (.one rfl) rfl (.h (.n)) (.c rfl (.one rfl) rfl (.t (.h (.n))) (.n)))) ?_
    refine LW.opBA (ob_box rfl .agg (fun _ => .c (.c (.c (.c (.c (.n))))))) rfl rfl (fun b23 => ?_)
    refine LW.v (ov_assign rfl) ?_
    refine LW.nil ?_
    refine KW.thenN ?_
    refine CW.seq ?_
    refine CW.seq ?_
    refine CW.region ?_
    refine LW.v (ov_move rfl) ?_
    refine LW.nil ?_
    refine KW.thenN ?_
    refine CW.block ?_
    refine CW.loopW (fun r env As => ∃ (k : Nat) (l : List Src) (ad : Option Addr) (c : Nat), k + r = 8 ∧ NewL size.toNat prio share k l ∧ (∀ i, i < k → inR prio share i) ∧ (0 < k → 32 ≤ size ∧ size ≤ 200) ∧ env = [(0, .int .i64 craft), (1, .int .i64 size), (6, P1 b6 0), (7, P1 b7 0), (10, P1 b23 0), (24, .int .i64 k)] ∧
      As = [ex g0, ownS 104 5 (.slice ad k c) k (srcs l), fils l, row b6 38 (iv prio), row b7 38 (iv share), row b23 69 [.int .i64 craft, .int .i64 size, .int .i64 0, .slice ad k c]]) 8 [0, 1, 2, 3, 4, 5] ⟨0, [], none, 0, rfl, ⟨rfl, fun i s h => by cases h⟩, fun i h => by omega, fun h => by omega, rfl, rfl⟩ ⟨rfl, rfl, rfl, rfl, rfl, rfl, trivial⟩ rfl rfl ?_
    rintro r _ _ ⟨k, l, ad, c, hkr, hl, hin, hsz, rfl, rfl⟩
    have hll := hl.1
    refine CW.seq ?_
    refine CW.region ?_
    refine LW.v (ov_lss rfl rfl) ?_
    refine LW.nil ?_
    refine KW.thenN ?_
    refine CW.seq ?_
    refine CW.condD (by rfl) (fun h => ?_) (fun h => ?_)
    · have hk : k < 8 := by omega
      have hgp := getD_iv (l := prio) (i := k) (by omega)
      have hgs := getD_iv (l := share) (i := k) (by omega)
      have hnew := fnew_ok size
      by_cases hz : 32 ≤ size ∧ size ≤ 200
      · have hnew' : Fn Try.prog 36 #[.int .i64 size] [] (Ret fun v Q => ∃ b, v = .tuple #[P1 b 0, .int .i64 0] ∧ Q = [frow b none 0 0 none 0 0 size 0]) := hnew.ret fun v Q q => q.1 hz
        by_cases hi : inR prio share k
        · have hi' := hi
          unfold inR at hi'
          refine CW.skip ?_
          refine KW.thenN ?_
          refine CW.seq ?_
          refine CW.block ?_
          refine CW.seq ?_
          refine CW.region ?_
          refine LW.v (ov_move rfl) ?_
          refine LW.v (ov_assign rfl) ?_
          refine LW.nil ?_
          refine KW.thenN ?_
          refine CW.seq ?_
          refine CW.region ?_
          refine LW.v (ov_move rfl) ?_
          refine LW.call [] (oc_fn cf36 rfl) rfl rfl rfl rfl (hnew') ?_
          rintro _ _ ⟨p, rfl, rfl⟩
          simp only [putBack, List.cons_append, List.nil_append]
          refine LW.v (ov_move rfl) ?_
          refine LW.v (ov_extract rfl rfl) ?_
          refine LW.v (ov_extract rfl rfl) ?_
          refine LW.v (ov_assign rfl) ?_
          refine LW.v (ov_assign rfl) ?_
          refine LW.nil ?_
          refine KW.thenN ?_
          refine CW.seq ?_
          refine CW.seq ?_
          refine CW.region ?_
          refine LW.v (ov_move rfl) ?_
          refine LW.v (OpV.eq (ov_neq rfl rfl) (congrArg Value.bool (decide_eq_false (by first | omega | assumption)))) ?_
          refine LW.v (ov_move rfl) ?_
          refine LW.v (ov_move rfl) ?_
          refine LW.v (ov_idxA (i := k) ar38 ta3 rfl rfl rfl hk) ?_
          refine LW.v (ov_loadR 3 ta3 rfl rfl hgp) ?_
          refine LW.v (OpV.eq (ov_lss rfl rfl) (congrArg Value.bool (decide_eq_false (by first | omega | assumption)))) ?_
          first | refine LW.v (ov_pickT rfl rfl) ?_ | refine LW.v (ov_pickF rfl rfl) ?_ | refine LW.v (ov_pick rfl rfl rfl) ?_
          refine LW.v (ov_move rfl) ?_
          refine LW.v (ov_move rfl) ?_
          refine LW.v (ov_idxA (i := k) ar38 ta3 rfl rfl rfl hk) ?_
          refine LW.v (ov_loadR 3 ta3 rfl rfl hgp) ?_
          refine LW.v (OpV.eq (ov_gtr rfl rfl) (congrArg Value.bool (decide_eq_false (by first | omega | assumption)))) ?_
          first | refine LW.v (ov_pickT rfl rfl) ?_ | refine LW.v (ov_pickF rfl rfl) ?_ | refine LW.v (ov_pick rfl rfl rfl) ?_
          refine LW.v (ov_move rfl) ?_
          refine LW.v (ov_move rfl) ?_
          refine LW.v (ov_idxA (i := k) ar38 ta3 rfl rfl rfl hk) ?_
          refine LW.v (ov_loadR 4 ta3 rfl rfl hgs) ?_
          refine LW.v (OpV.eq (ov_lss rfl rfl) (congrArg Value.bool (decide_eq_false (by first | omega | assumption)))) ?_
          first | refine LW.v (ov_pickT rfl rfl) ?_ | refine LW.v (ov_pickF rfl rfl) ?_ | refine LW.v (ov_pick rfl rfl rfl) ?_
          refine LW.v (ov_move rfl) ?_
          refine LW.v (ov_move rfl) ?_
          refine LW.v (ov_idxA (i := k) ar38 ta3 rfl rfl rfl hk) ?_
          refine LW.v (ov_loadR 4 ta3 rfl rfl hgs) ?_
          refine LW.v (OpV.eq (ov_gtr rfl rfl) (congrArg Value.bool (decide_eq_false (by first | omega | assumption)))) ?_
          first | refine LW.v (ov_pickT rfl rfl) ?_ | refine LW.v (ov_pickF rfl rfl) ?_ | refine LW.v (ov_pick rfl rfl rfl) ?_
          refine LW.nil ?_
          refine KW.thenN ?_
          refine CW.condF rfl rfl ?_
          refine CW.skip ?_
          refine KW.thenN ?_
          refine CW.draw [3,4] rfl mixed rfl (ls := #[false, false, false, false, false, false, false, false, false, false, false, false, false, false, false, false, false, false]) (by kernel_rfl) ?_
          have hsn := srcs_snoc l ⟨p, prio.getD k 0, share.getD k 0, 0, 0, ⟨[], [], size.toNat, 0⟩⟩
          have hfs : fils (l ++ [⟨p, prio.getD k 0, share.getD k 0, 0, 0, ⟨[], [], size.toNat, 0⟩⟩]) = bigS ((l.map fun s => filA s.p s.fl) ++ [filA p ⟨[], [], size.toNat, 0⟩]) := by rw [fils, List.map_append]; rfl
          have hin' : ∀ i, i < k + 1 → inR prio share i := fun i q => by
            by_cases e : i = k
            · rw [e]; exact hi
            · exact hin i (by omega)
          have hszn : (size : Int) = (size.toNat : Int) := by omega
          refine DW.tk 0 [3,4] rfl (ov_move rfl) ?_
          refine DW.tk 1 [3,4] rfl (ov_move rfl) ?_
          first | refine DW.tk 2 [3,4] rfl (ov_nilP rfl) ?_ | refine DW.tk 2 [3,4] rfl (ov_nilF rfl) ?_
          refine DW.tk 3 [3,4] rfl (ov_fieldAddr fo69_3 rfl) ?_
          refine DW.tk 5 [3,4] rfl (ov_move rfl) ?_
          refine DW.tk 6 [3,4] rfl (ov_move rfl) ?_
          refine DW.tk 7 [3,4] rfl (ov_idxA (i := k) ar38 ta3 rfl rfl rfl hk) ?_
          refine DW.tk 8 [3,4] rfl (ov_loadR 0 ta3 rfl rfl hgp) ?_
          refine DW.tk 9 [3,4] rfl (ov_move rfl) ?_
          refine DW.tk 10 [3,4] rfl (ov_idxA (i := k) ar38 ta3 rfl rfl rfl hk) ?_
          refine DW.tk 11 [3,4] rfl (ov_loadR 1 ta3 rfl rfl hgs) ?_
          refine DW.tk 12 [3,4] rfl (ov_build zc104 pl104 rfl (.c rfl (.one rfl) rfl (.h (.n)) (.c rfl (.one rfl) rfl (.t (.h (.n))) (.c rfl (.one rfl) rfl (.t (.t (.h (.n)))) (.n))))) ?_
          refine DW.all2 4 13 (by kernel_rfl) ?_ ?_
          · refine DO.opV [3,4] rfl (ov_loadR 5 ta67 rfl rfl rfl) rfl rfl rfl rfl rfl ?_
            refine DW.all1 13 (by kernel_rfl) ?_
            refine DO.opBA [3,4] rfl (ob_bsOne so67 zc104 rfl .agg rfl rfl (by decide) (fun _ => .c (.c (.c (.c (.c (.c (.c (.n))))))))) rfl rfl (fun _ => rfl) (fun _ => rfl) rfl (fun b71 => ?_)
            refine DW.all1 14 (by kernel_rfl) ?_
            refine DO.opX [3,4] rfl (ox_appR 7 so67 zo104 rfl so67 rfl rfl rfl rfl rfl (by omega) (by omega) (by omega) (fun _ => .t (.h))) rfl rfl (fun _ => rfl) (fun _ => rfl) rfl (fun a72 c72 => ?_)
            first | refine DW.tk 15 [3,4] rfl (ov_nilP rfl) ?_ | refine DW.tk 15 [3,4] rfl (ov_nilF rfl) ?_
            refine DW.tk 16 [3,4] rfl (ov_fieldAddr fo69_3 rfl) ?_
            refine DW.all1 17 (by kernel_rfl) ?_
            refine DO.opU [3,4] rfl (ou_storeW ta67 rfl rfl (.one rfl) rfl rfl (.t (.t (.t (.h (.n))))) (.t (.t (.t (.t (.t (.h))))))) rfl rfl rfl rfl ?_
            refine DW.done (by kernel_rfl) ?_
            refine KW.blockN ?_
            refine KW.thenN ?_
            refine CW.region ?_
            first | refine LW.v (ov_add rfl rfl (by omega)) ?_ | refine LW.v (ov_addW rfl rfl) ?_
            refine LW.v (ov_move rfl) ?_
            refine LW.nil ?_
            refine KW.turn (fun w hs => (Sat.bigPush (l := l.map fun s => filA s.p s.fl) (A := filA p ⟨[], [], size.toNat, 0⟩) (hs.imp 6 (B := filA p ⟨[], [], size.toNat, 0⟩) rfl (fun g hg => fil_new (by rw [← hszn]; exact hg))) 2 6 rfl rfl (by decide))) ?_
            exact KW.again (r - 1) [0, 1, 2, 3, 4, 5] (by omega) ⟨k + 1, l ++ [⟨p, prio.getD k 0, share.getD k 0, 0, 0, ⟨[], [], size.toNat, 0⟩⟩], _, _, by omega, hl.snoc p, hin', fun _ => hz, rfl, rfl⟩ ⟨rfl, rfl, rfl, rfl, rfl, rfl, trivial⟩ rfl (by rw [hsn, hfs]; rfl)
          · refine DO.opBA [3,4] rfl (ob_bsOne so67 zc104 rfl .agg rfl rfl (by decide) (fun _ => .c (.c (.c (.c (.c (.c (.c (.n))))))))) rfl rfl (fun _ => rfl) (fun _ => rfl) rfl (fun b71 => ?_)
            refine DW.all1 4 (by kernel_rfl) ?_
            refine DO.opV [3,4] rfl (ov_loadR 5 ta67 rfl rfl rfl) rfl rfl rfl rfl rfl ?_
            refine DW.all1 14 (by kernel_rfl) ?_
            refine DO.opX [3,4] rfl (ox_appR 7 so67 zo104 rfl so67 rfl rfl rfl rfl rfl (by omega) (by omega) (by omega) (fun _ => .t (.h))) rfl rfl (fun _ => rfl) (fun _ => rfl) rfl (fun a72 c72 => ?_)
            first | refine DW.tk 15 [3,4] rfl (ov_nilP rfl) ?_ | refine DW.tk 15 [3,4] rfl (ov_nilF rfl) ?_
            refine DW.tk 16 [3,4] rfl (ov_fieldAddr fo69_3 rfl) ?_
            refine DW.all1 17 (by kernel_rfl) ?_
            refine DO.opU [3,4] rfl (ou_storeW ta67 rfl rfl (.one rfl) rfl rfl (.t (.t (.t (.h (.n))))) (.t (.t (.t (.t (.t (.h))))))) rfl rfl rfl rfl ?_
            refine DW.done (by kernel_rfl) ?_
            refine KW.blockN ?_
            refine KW.thenN ?_
            refine CW.region ?_
            first | refine LW.v (ov_add rfl rfl (by omega)) ?_ | refine LW.v (ov_addW rfl rfl) ?_
            refine LW.v (ov_move rfl) ?_
            refine LW.nil ?_
            refine KW.turn (fun w hs => (Sat.bigPush (l := l.map fun s => filA s.p s.fl) (A := filA p ⟨[], [], size.toNat, 0⟩) (hs.imp 6 (B := filA p ⟨[], [], size.toNat, 0⟩) rfl (fun g hg => fil_new (by rw [← hszn]; exact hg))) 2 6 rfl rfl (by decide))) ?_
            exact KW.again (r - 1) [0, 1, 2, 3, 4, 5] (by omega) ⟨k + 1, l ++ [⟨p, prio.getD k 0, share.getD k 0, 0, 0, ⟨[], [], size.toNat, 0⟩⟩], _, _, by omega, hl.snoc p, hin', fun _ => hz, rfl, rfl⟩ ⟨rfl, rfl, rfl, rfl, rfl, rfl, trivial⟩ rfl (by rw [hsn, hfs]; rfl)
        · have hno : ¬ okN craft size prio share := fun q => hi (q.2.2.2.2 k hk)
          unfold inR at hi
          refine CW.skip ?_
          refine KW.thenN ?_
          refine CW.seq ?_
          refine CW.block ?_
          refine CW.seq ?_
          refine CW.region ?_
          refine LW.v (ov_move rfl) ?_
          refine LW.v (ov_assign rfl) ?_
          refine LW.nil ?_
          refine KW.thenN ?_
          refine CW.seq ?_
          refine CW.region ?_
          refine LW.v (ov_move rfl) ?_
          refine LW.call [] (oc_fn cf36 rfl) rfl rfl rfl rfl (hnew') ?_
          rintro _ _ ⟨p, rfl, rfl⟩
          simp only [putBack, List.cons_append, List.nil_append]
          refine LW.v (ov_move rfl) ?_
          refine LW.v (ov_extract rfl rfl) ?_
          refine LW.v (ov_extract rfl rfl) ?_
          refine LW.v (ov_assign rfl) ?_
          refine LW.v (ov_assign rfl) ?_
          refine LW.nil ?_
          refine KW.thenN ?_
          refine CW.seq ?_
          refine CW.seq ?_
          refine CW.region ?_
          refine LW.v (ov_move rfl) ?_
          refine LW.v (OpV.eq (ov_neq rfl rfl) (congrArg Value.bool (decide_eq_false (by first | omega | assumption)))) ?_
          refine LW.v (ov_move rfl) ?_
          refine LW.v (ov_move rfl) ?_
          refine LW.v (ov_idxA (i := k) ar38 ta3 rfl rfl rfl hk) ?_
          refine LW.v (ov_loadR 3 ta3 rfl rfl hgp) ?_
          refine LW.v (ov_lss rfl rfl) ?_
          first | refine LW.v (ov_pickT rfl rfl) ?_ | refine LW.v (ov_pickF rfl rfl) ?_ | refine LW.v (ov_pick rfl rfl rfl) ?_
          refine LW.v (ov_move rfl) ?_
          first | refine KW.splitD 40 rfl (fun h40 => ?_) (fun h40 => ?_) | refine KW.split 40 rfl (fun h40 => ?_) (fun h40 => ?_)
          · refine LW.skip rfl rfl ?_
            refine LW.skip rfl rfl ?_
            refine LW.skip rfl rfl ?_
            refine LW.skip rfl rfl ?_
            first | refine LW.v (ov_pickT rfl rfl) ?_ | refine LW.v (ov_pickF rfl rfl) ?_ | refine LW.v (ov_pick rfl rfl rfl) ?_
            refine LW.v (ov_move rfl) ?_
            refine LW.skip rfl rfl ?_
            refine LW.skip rfl rfl ?_
            refine LW.skip rfl rfl ?_
            refine LW.skip rfl rfl ?_
            first | refine LW.v (ov_pickT rfl rfl) ?_ | refine LW.v (ov_pickF rfl rfl) ?_ | refine LW.v (ov_pick rfl rfl rfl) ?_
            refine LW.v (ov_move rfl) ?_
            refine LW.skip rfl rfl ?_
            refine LW.skip rfl rfl ?_
            refine LW.skip rfl rfl ?_
            refine LW.skip rfl rfl ?_
            first | refine LW.v (ov_pickT rfl rfl) ?_ | refine LW.v (ov_pickF rfl rfl) ?_ | refine LW.v (ov_pick rfl rfl rfl) ?_
            refine LW.nil ?_
            refine KW.thenN ?_
            refine CW.condT rfl rfl ?_
            refine CW.seq ?_
            refine CW.region ?_
            refine LW.v (ov_assign rfl) ?_
            refine LW.v (ov_assign rfl) ?_
            refine LW.nil ?_
            refine KW.thenN ?_
            refine CW.ret ?_
            refine KW.thenR ?_
            refine KW.blockR ?_
            refine KW.thenR ?_
            refine KW.thenR ?_
            refine KW.blockR ?_
            refine KW.thenR ?_
            first | (exfalso; omega) | exact KW.retF (.cons (.tmp rfl) (.cons (.tmp rfl) .nil)) [] rfl rfl ⟨fun q => absurd q hno, fun _ => rfl⟩
          · refine LW.v (ov_move rfl) ?_
            refine LW.v (ov_idxA (i := k) ar38 ta3 rfl rfl rfl hk) ?_
            refine LW.v (ov_loadR 3 ta3 rfl rfl hgp) ?_
            refine LW.v (ov_gtr rfl rfl) ?_
            first | refine LW.v (ov_pickT rfl rfl) ?_ | refine LW.v (ov_pickF rfl rfl) ?_ | refine LW.v (ov_pick rfl rfl rfl) ?_
            refine LW.v (ov_move rfl) ?_
            first | refine KW.splitD 46 rfl (fun h46 => ?_) (fun h46 => ?_) | refine KW.split 46 rfl (fun h46 => ?_) (fun h46 => ?_)
            · refine LW.skip rfl rfl ?_
              refine LW.skip rfl rfl ?_
              refine LW.skip rfl rfl ?_
              refine LW.skip rfl rfl ?_
              first | refine LW.v (ov_pickT rfl rfl) ?_ | refine LW.v (ov_pickF rfl rfl) ?_ | refine LW.v (ov_pick rfl rfl rfl) ?_
              refine LW.v (ov_move rfl) ?_
              refine LW.skip rfl rfl ?_
              refine LW.skip rfl rfl ?_
              refine LW.skip rfl rfl ?_
              refine LW.skip rfl rfl ?_
              first | refine LW.v (ov_pickT rfl rfl) ?_ | refine LW.v (ov_pickF rfl rfl) ?_ | refine LW.v (ov_pick rfl rfl rfl) ?_
              refine LW.nil ?_
              refine KW.thenN ?_
              refine CW.condT rfl rfl ?_
              refine CW.seq ?_
              refine CW.region ?_
              refine LW.v (ov_assign rfl) ?_
              refine LW.v (ov_assign rfl) ?_
              refine LW.nil ?_
              refine KW.thenN ?_
              refine CW.ret ?_
              refine KW.thenR ?_
              refine KW.blockR ?_
              refine KW.thenR ?_
              refine KW.thenR ?_
              refine KW.blockR ?_
              refine KW.thenR ?_
              first | (exfalso; omega) | exact KW.retF (.cons (.tmp rfl) (.cons (.tmp rfl) .nil)) [] rfl rfl ⟨fun q => absurd q hno, fun _ => rfl⟩
            · refine LW.v (ov_move rfl) ?_
              refine LW.v (ov_idxA (i := k) ar38 ta3 rfl rfl rfl hk) ?_
              refine LW.v (ov_loadR 4 ta3 rfl rfl hgs) ?_
              refine LW.v (ov_lss rfl rfl) ?_
              first | refine LW.v (ov_pickT rfl rfl) ?_ | refine LW.v (ov_pickF rfl rfl) ?_ | refine LW.v (ov_pick rfl rfl rfl) ?_
              refine LW.v (ov_move rfl) ?_
              first | refine KW.splitD 52 rfl (fun h52 => ?_) (fun h52 => ?_) | refine KW.split 52 rfl (fun h52 => ?_) (fun h52 => ?_)
              · refine LW.skip rfl rfl ?_
                refine LW.skip rfl rfl ?_
                refine LW.skip rfl rfl ?_
                refine LW.skip rfl rfl ?_
                first | refine LW.v (ov_pickT rfl rfl) ?_ | refine LW.v (ov_pickF rfl rfl) ?_ | refine LW.v (ov_pick rfl rfl rfl) ?_
                refine LW.nil ?_
                refine KW.thenN ?_
                refine CW.condT rfl rfl ?_
                refine CW.seq ?_
                refine CW.region ?_
                refine LW.v (ov_assign rfl) ?_
                refine LW.v (ov_assign rfl) ?_
                refine LW.nil ?_
                refine KW.thenN ?_
                refine CW.ret ?_
                refine KW.thenR ?_
                refine KW.blockR ?_
                refine KW.thenR ?_
                refine KW.thenR ?_
                refine KW.blockR ?_
                refine KW.thenR ?_
                first | (exfalso; omega) | exact KW.retF (.cons (.tmp rfl) (.cons (.tmp rfl) .nil)) [] rfl rfl ⟨fun q => absurd q hno, fun _ => rfl⟩
              · refine LW.v (ov_move rfl) ?_
                refine LW.v (ov_idxA (i := k) ar38 ta3 rfl rfl rfl hk) ?_
                refine LW.v (ov_loadR 4 ta3 rfl rfl hgs) ?_
                refine LW.v (ov_gtr rfl rfl) ?_
                first | refine LW.v (ov_pickT rfl rfl) ?_ | refine LW.v (ov_pickF rfl rfl) ?_ | refine LW.v (ov_pick rfl rfl rfl) ?_
                refine LW.nil ?_
                refine KW.thenN ?_
                first | refine KW.splitD 57 rfl (fun h57 => ?_) (fun h57 => ?_) | refine KW.split 57 rfl (fun h57 => ?_) (fun h57 => ?_)
                · refine CW.condT rfl rfl ?_
                  refine CW.seq ?_
                  refine CW.region ?_
                  refine LW.v (ov_assign rfl) ?_
                  refine LW.v (ov_assign rfl) ?_
                  refine LW.nil ?_
                  refine KW.thenN ?_
                  refine CW.ret ?_
                  refine KW.thenR ?_
                  refine KW.blockR ?_
                  refine KW.thenR ?_
                  refine KW.thenR ?_
                  refine KW.blockR ?_
                  refine KW.thenR ?_
                  first | (exfalso; omega) | exact KW.retF (.cons (.tmp rfl) (.cons (.tmp rfl) .nil)) [] rfl rfl ⟨fun q => absurd q hno, fun _ => rfl⟩
                · refine CW.condF rfl rfl ?_
                  refine CW.skip ?_
                  refine KW.thenN ?_
                  first | (exfalso; omega) | exact KW.retF (.cons (.tmp rfl) (.cons (.tmp rfl) .nil)) [] rfl rfl ⟨fun q => absurd q hno, fun _ => rfl⟩
      · have hno : ¬ okN craft size prio share := fun q => hz ⟨q.2.2.1, q.2.2.2.1⟩
        have hnew' : Fn Try.prog 36 #[.int .i64 size] [] (Ret fun v Q => v = .tuple #[.pointer none, .int .i64 2] ∧ Q = []) := hnew.ret fun v Q q => q.2 hz
        refine CW.skip ?_
        refine KW.thenN ?_
        refine CW.seq ?_
        refine CW.block ?_
        refine CW.seq ?_
        refine CW.region ?_
        refine LW.v (ov_move rfl) ?_
        refine LW.v (ov_assign rfl) ?_
        refine LW.nil ?_
        refine KW.thenN ?_
        refine CW.seq ?_
        refine CW.region ?_
        refine LW.v (ov_move rfl) ?_
        refine LW.call [] (oc_fn cf36 rfl) rfl rfl rfl rfl (hnew') ?_
        rintro _ _ ⟨rfl, rfl⟩
        simp only [putBack, List.append_nil]
        refine LW.v (ov_move rfl) ?_
        refine LW.v (ov_extract rfl rfl) ?_
        refine LW.v (ov_extract rfl rfl) ?_
        refine LW.v (ov_assign rfl) ?_
        refine LW.v (ov_assign rfl) ?_
        refine LW.nil ?_
        refine KW.thenN ?_
        refine CW.seq ?_
        refine CW.seq ?_
        refine CW.region ?_
        refine LW.v (ov_move rfl) ?_
        refine LW.v (OpV.eq (ov_neq rfl rfl) (congrArg Value.bool (decide_eq_true (by first | omega | assumption)))) ?_
        refine LW.v (ov_move rfl) ?_
        refine LW.skip rfl rfl ?_
        refine LW.skip rfl rfl ?_
        refine LW.skip rfl rfl ?_
        refine LW.skip rfl rfl ?_
        first | refine LW.v (ov_pickT rfl rfl) ?_ | refine LW.v (ov_pickF rfl rfl) ?_ | refine LW.v (ov_pick rfl rfl rfl) ?_
        refine LW.v (ov_move rfl) ?_
        refine LW.skip rfl rfl ?_
        refine LW.skip rfl rfl ?_
        refine LW.skip rfl rfl ?_
        refine LW.skip rfl rfl ?_
        first | refine LW.v (ov_pickT rfl rfl) ?_ | refine LW.v (ov_pickF rfl rfl) ?_ | refine LW.v (ov_pick rfl rfl rfl) ?_
        refine LW.v (ov_move rfl) ?_
        refine LW.skip rfl rfl ?_
        refine LW.skip rfl rfl ?_
        refine LW.skip rfl rfl ?_
        refine LW.skip rfl rfl ?_
        first | refine LW.v (ov_pickT rfl rfl) ?_ | refine LW.v (ov_pickF rfl rfl) ?_ | refine LW.v (ov_pick rfl rfl rfl) ?_
        refine LW.v (ov_move rfl) ?_
        refine LW.skip rfl rfl ?_
        refine LW.skip rfl rfl ?_
        refine LW.skip rfl rfl ?_
        refine LW.skip rfl rfl ?_
        first | refine LW.v (ov_pickT rfl rfl) ?_ | refine LW.v (ov_pickF rfl rfl) ?_ | refine LW.v (ov_pick rfl rfl rfl) ?_
        refine LW.nil ?_
        refine KW.thenN ?_
        refine CW.condT rfl rfl ?_
        refine CW.seq ?_
        refine CW.region ?_
        refine LW.v (ov_assign rfl) ?_
        refine LW.v (ov_assign rfl) ?_
        refine LW.nil ?_
        refine KW.thenN ?_
        refine CW.ret ?_
        refine KW.thenR ?_
        refine KW.blockR ?_
        refine KW.thenR ?_
        refine KW.thenR ?_
        refine KW.blockR ?_
        refine KW.thenR ?_
        exact KW.retF (.cons (.tmp rfl) (.cons (.tmp rfl) (.nil))) [] rfl rfl (⟨fun q => absurd q hno, fun _ => rfl⟩)
    · obtain rfl : k = 8 := by omega
      have hz := hsz (by decide)
      have hyes : okN craft size prio share := ⟨hcr.1, hcr.2, hz.1, hz.2, hin⟩
      refine KW.ownC 1 rfl (fun q1 q2 q3 q4 => by cases q2) (fun b extra q1 q2 q3 q4 => ?_)
      subst q1
      refine CW.exit ?_
      refine KW.thenX ?_
      refine KW.thenX ?_
      refine KW.hit ?_
      refine KW.thenN ?_
      refine CW.seq ?_
      refine CW.region ?_
      refine LW.v (ov_move rfl) ?_
      refine LW.v (ov_assign rfl) ?_
      refine LW.v (ov_assign rfl) ?_
      refine LW.nil ?_
      refine KW.thenN ?_
      refine CW.ret ?_
      exact KW.retF (.cons (.tmp rfl) (.cons (.tmp rfl) (.nil))) [5, 1, 2] rfl rfl (⟨fun _ => ⟨b23, b, c, extra, l, rfl, hl, rfl⟩, fun q => absurd hyes q⟩)
  · have hno : ¬ okN craft size prio share := fun q => hcr ⟨q.1, q.2.1⟩
    refine Fn.of (args := _) Try.func15 rfl Try.ntmps15 rfl ?_
    intro w0 g0
    by_cases h0 : craft < 0
    · refine CW.seq ?_
      refine CW.region ?_
      refine LW.opBA (ob_box rfl .agg (fun _ => .c (.n))) rfl rfl (fun b6 => ?_)
      refine LW.opBA (ob_box rfl .agg (fun _ => .c (.c (.n)))) rfl rfl (fun b7 => ?_)
      refine LW.v (ov_assign rfl) ?_
      refine LW.v (ov_assign rfl) ?_
      refine LW.nil ?_
      refine KW.thenN ?_
      refine CW.seq ?_
      refine CW.seq ?_
      refine CW.region ?_
      refine LW.v (ov_move rfl) ?_
      refine LW.v (OpV.eq (ov_lss rfl rfl) (congrArg Value.bool (decide_eq_true (by first | omega | assumption)))) ?_
      refine LW.v (ov_move rfl) ?_
      refine LW.skip rfl rfl ?_
      refine LW.skip rfl rfl ?_
      first | refine LW.v (ov_pickT rfl rfl) ?_ | refine LW.v (ov_pickF rfl rfl) ?_ | refine LW.v (ov_pick rfl rfl rfl) ?_
      refine LW.nil ?_
      refine KW.thenN ?_
      refine CW.condT rfl rfl ?_
      refine CW.seq ?_
      refine CW.region ?_
      refine LW.v (ov_assign rfl) ?_
      refine LW.v (ov_assign rfl) ?_
      refine LW.nil ?_
      refine KW.thenN ?_
      refine CW.ret ?_
      refine KW.thenR ?_
      exact KW.retF (.cons (.tmp rfl) (.cons (.tmp rfl) (.nil))) [] rfl rfl (⟨fun q => absurd q hno, fun _ => rfl⟩)
    · refine CW.seq ?_
      refine CW.region ?_
      refine LW.opBA (ob_box rfl .agg (fun _ => .c (.n))) rfl rfl (fun b6 => ?_)
      refine LW.opBA (ob_box rfl .agg (fun _ => .c (.c (.n)))) rfl rfl (fun b7 => ?_)
      refine LW.v (ov_assign rfl) ?_
      refine LW.v (ov_assign rfl) ?_
      refine LW.nil ?_
      refine KW.thenN ?_
      refine CW.seq ?_
      refine CW.seq ?_
      refine CW.region ?_
      refine LW.v (ov_move rfl) ?_
      refine LW.v (OpV.eq (ov_lss rfl rfl) (congrArg Value.bool (decide_eq_false (by first | omega | assumption)))) ?_
      refine LW.v (ov_move rfl) ?_
      refine LW.v (ov_move rfl) ?_
      refine LW.v (OpV.eq (ov_gtr rfl rfl) (congrArg Value.bool (decide_eq_true (by first | omega | assumption)))) ?_
      first | refine LW.v (ov_pickT rfl rfl) ?_ | refine LW.v (ov_pickF rfl rfl) ?_ | refine LW.v (ov_pick rfl rfl rfl) ?_
      refine LW.nil ?_
      refine KW.thenN ?_
      refine CW.condT rfl rfl ?_
      refine CW.seq ?_
      refine CW.region ?_
      refine LW.v (ov_assign rfl) ?_
      refine LW.v (ov_assign rfl) ?_
      refine LW.nil ?_
      refine KW.thenN ?_
      refine CW.ret ?_
      refine KW.thenR ?_
      exact KW.retF (.cons (.tmp rfl) (.cons (.tmp rfl) (.nil))) [] rfl rfl (⟨fun q => absurd q hno, fun _ => rfl⟩)
end Sx
end Go.Proofs.Ytdgphamhpjnmpaa

/- The reference's new mux. -/
namespace Go.Proofs.Ytdgphamhpjnmpaa
namespace Sx

def rm0 (craft size : Int) (prio share : List Int) (ps : List Value) : List Value := [.int .i64 craft, .int .i64 size] ++ (iv prio ++ (iv share ++ (ps ++ ([.int .i64 0] ++ (iv [0, 0, 0, 0, 0, 0, 0, 0] ++ iv [0, 0, 0, 0, 0, 0, 0, 0])))))
theorem rm0_set {craft size : Int} {prio share : List Int} {ps : List Value} (hp : prio.length = 8) (hs : share.length = 8) (hps : ps.length = 8) {k : Nat} (hk : k < 8) (v : Value) : wr (rm0 craft size prio share ps) (0 + 18 + k * 1) [v] = rm0 craft size prio share (ps.set k v) := by
  show (rm0 craft size prio share ps).set (0 + 18 + k * 1) v = _
  rw [rm0, show 0 + 18 + k * 1 = 2 + (8 + (8 + k)) by omega, app_set (n := 2) rfl, app_set (by rw [iv_len, hp]), app_set (by rw [iv_len, hs]), app_set0 hps hk]; rfl
theorem rm0_eq {craft : Int} {size : Nat} {prio share : List Int} {l : List RSrc} (hp : prio.length = 8) (hs : share.length = 8) (hl : NewR size prio share 8 l) : rm0 craft size prio share (l.map fun s => P1 s.p 0) = rmC ⟨craft, size, 0, l⟩ := by
  obtain ⟨h1, h2⟩ := hl
  have e : ∀ (f : RSrc → Int) (xs : List Int), xs.length = 8 → (∀ i s, l[i]? = some s → f s = xs.getD i 0) → l.map f = xs := fun f xs hx hf => by
    apply List.ext_getElem?
    intro i
    rw [List.getElem?_map]
    cases q : l[i]? with
    | none =>
      have : ¬ i < l.length := fun w => by rw [List.getElem?_eq_getElem w] at q; cases q
      rw [List.getElem?_eq_none (by omega)]; rfl
    | some s =>
      have hi := lt_of_get q
      rw [Option.map_some, hf i s q, List.getD, List.getElem?_eq_getElem (by omega)]; rfl
  have z : ∀ (f : RSrc → Int), (∀ i s, l[i]? = some s → f s = 0) → l.map f = [0, 0, 0, 0, 0, 0, 0, 0] := fun f hf => e f _ rfl (fun i s h => by
    rw [hf i s h]
    have hi := lt_of_get h
    rw [h1] at hi
    have : i = 0 ∨ i = 1 ∨ i = 2 ∨ i = 3 ∨ i = 4 ∨ i = 5 ∨ i = 6 ∨ i = 7 := by omega
    rcases this with rfl | rfl | rfl | rfl | rfl | rfl | rfl | rfl <;> rfl)
  rw [rm0, rmC]
  simp only
  rw [e (·.prio) prio hp (fun i s h => by obtain ⟨p, rfl⟩ := h2 i s h; rfl), e (·.share) share hs (fun i s h => by obtain ⟨p, rfl⟩ := h2 i s h; rfl), z (·.count) (fun i s h => by obtain ⟨p, rfl⟩ := h2 i s h; rfl), z (·.credit) (fun i s h => by obtain ⟨p, rfl⟩ := h2 i s h; rfl)]
theorem rnewmux_ok {craft size : Int} {prio share : List Int} (hp : prio.length = 8) (hs : share.length = 8) : Fn Try.prog 22 #[.int .i64 craft, .int .i64 size, .agg (iv prio).toArray, .agg (iv share).toArray] []
    (Ret fun v Q => (okN craft size prio share → ∃ m l, v = .tuple #[P1 m 0, .int .i64 0] ∧ NewR size.toNat prio share 8 l ∧ Q = rmx2 m ⟨craft, size, 0, l⟩) ∧ (¬ okN craft size prio share → v = .tuple #[.pointer none, .int .i64 2])) := by
  have hpl : (iv prio).length = 8 := by rw [iv_len, hp]
  have hsl : (iv share).length = 8 := by rw [iv_len, hs]
  obtain ⟨p0, p1, p2, p3, p4, p5, p6, p7, hpe⟩ : ∃ p0 p1 p2 p3 p4 p5 p6 p7, prio = [p0, p1, p2, p3, p4, p5, p6, p7] := by
    match prio, hp with
    | [a, b, c, d, e, f, g, h], _ => exact ⟨a, b, c, d, e, f, g, h, rfl⟩
  obtain ⟨q0, q1, q2, q3, q4, q5, q6, q7, hse⟩ : ∃ p0 p1 p2 p3 p4 p5 p6 p7, share = [p0, p1, p2, p3, p4, p5, p6, p7] := by
    match share, hs with
    | [a, b, c, d, e, f, g, h], _ => exact ⟨a, b, c, d, e, f, g, h, rfl⟩
  have hpv : iv prio = [.int .i64 p0, .int .i64 p1, .int .i64 p2, .int .i64 p3, .int .i64 p4, .int .i64 p5, .int .i64 p6, .int .i64 p7] := by rw [hpe]; rfl
  have hsv : iv share = [.int .i64 q0, .int .i64 q1, .int .i64 q2, .int .i64 q3, .int .i64 q4, .int .i64 q5, .int .i64 q6, .int .i64 q7] := by rw [hse]; rfl
  rw [hpv, hsv]
  refine Fn.of (args := _) Try.func22 rfl Try.ntmps22 rfl ?_
  intro w0 g0
  refine KW.turn (fun w hs => hs.nilE (A := rfils []) rfl) ?_
  simp only [List.cons_append, List.nil_append]
  refine CW.seq ?_
  refine CW.region ?_
  refine LW.opBA (ob_box rfl .agg (fun _ => .c (.c (.n)))) rfl rfl (fun b6 => ?_)
  refine LW.opBA (ob_box rfl .agg (fun _ => .c (.c (.c (.n))))) rfl rfl (fun b7 => ?_)
  refine LW.v (ov_assign rfl) ?_
  refine LW.v (ov_assign rfl) ?_
  refine LW.nil ?_
  refine KW.thenN ?_
  refine CW.seq ?_
  refine CW.region ?_
  refine LW.v (ov_move rfl) ?_
  refine LW.v (ov_move rfl) ?_
  refine LW.v (ov_loadAR 2 ta38 rfl rfl (.h (.h (.h (.h (.h (.h (.h (.h (.n)))))))))) ?_
  refine LW.v (ov_loadAR 3 ta38 rfl rfl (.h (.h (.h (.h (.h (.h (.h (.h (.n)))))))))) ?_
  refine LW.v (ov_build zc120 pl120 rfl (.c rfl (.one rfl) rfl (.h (.n)) (.c rfl (.one rfl) rfl (.t (.h (.n))) (.c rfl .agg rfl (.t (.t (.h (.h (.h (.h (.h (.h (.h (.h (.n))))))))))) (.c rfl .agg rfl (.t (.t (.t (.t (.t (.t (.t (.t (.t (.t (.h (.h (.h (.h (.h (.h (.h (.h (.n))))))))))))))))))) (.n)))))) ?_
  refine LW.opBA (ob_box rfl .agg (fun _ => .c (.c (.c (.c (.n)))))) rfl rfl (fun b19 => ?_)
  refine LW.v (ov_assign rfl) ?_
  refine LW.nil ?_
  refine KW.thenN ?_
  refine CW.seq ?_
  refine CW.seq ?_
  refine CW.region ?_
  refine LW.v (ov_assign rfl) ?_
  refine LW.nil ?_
  refine KW.thenN ?_
  refine CW.block ?_
  refine CW.loopW (fun r env As => ∃ (k : Nat) (l : List RSrc) (ps : List Value), k + r = 8 ∧ NewR size.toNat prio share k l ∧ (∀ i, i < k → inR prio share i) ∧ (0 < k → 0 ≤ craft ∧ craft ≤ 255 ∧ 32 ≤ size ∧ size ≤ 200) ∧ ps.length = 8 ∧ ps.take k = l.map (fun s => P1 s.p 0) ∧
    env = [(0, .int .i64 craft), (1, .int .i64 size), (6, P1 b6 0), (7, P1 b7 0), (10, P1 b19 0), (11, .int .i64 k)] ∧
    As = [ex g0, rfils l, row b6 38 (iv prio), row b7 38 (iv share), row b19 120 (rm0 craft size prio share ps)]) 8 [0, 1, 2, 3, 4] ⟨0, [], [.pointer none, .pointer none, .pointer none, .pointer none, .pointer none, .pointer none, .pointer none, .pointer none], rfl, ⟨rfl, fun i s h => by cases h⟩, fun i h => by omega, fun h => by omega, rfl, rfl, rfl, rfl⟩ ⟨rfl, rfl, rfl, rfl, rfl, rfl, trivial⟩ rfl (by rw [rm0, hpv, hsv]; rfl) ?_
  rintro r _ _ ⟨k, l, ps, hkr, hl, hin, hsz, hps, hpt, rfl, rfl⟩
  have hll := hl.1
  refine CW.seq ?_
  refine CW.seq ?_
  refine CW.region ?_
  refine LW.v (ov_move rfl) ?_
  refine LW.v (ov_lss rfl rfl) ?_
  refine LW.nil ?_
  refine KW.thenN ?_
  refine CW.condD (by rfl) (fun h => ?_) (fun h => ?_)
  · have hk : k < 8 := by omega
    have hgp := getD_iv (l := prio) (i := k) (by omega)
    have hgs := getD_iv (l := share) (i := k) (by omega)
    have hnew := rnew_ok size
    by_cases hz : 32 ≤ size ∧ size ≤ 200
    · have hnew' : Fn Try.prog 45 #[.int .i64 size] [] (Ret fun v Q => ∃ b, v = .tuple #[P1 b 0, .int .i64 0] ∧ Q = [rrow b none 0 0 size false []]) := hnew.ret fun v Q q => q.1 hz
      by_cases hi : (0 ≤ craft ∧ craft ≤ 255) ∧ inR prio share k
      · have hi' := hi
        unfold inR at hi'
        refine CW.skip ?_
        refine KW.thenN ?_
        refine CW.seq ?_
        refine CW.block ?_
        refine CW.seq ?_
        refine CW.region ?_
        refine LW.v (ov_move rfl) ?_
        refine LW.call [] (oc_fn cf45 rfl) rfl rfl rfl rfl (hnew') ?_
        rintro _ _ ⟨p, rfl, rfl⟩
        simp only [putBack, List.cons_append, List.nil_append]
        refine LW.v (ov_move rfl) ?_
        refine LW.v (ov_extract rfl rfl) ?_
        refine LW.v (ov_extract rfl rfl) ?_
        refine LW.v (ov_assign rfl) ?_
        refine LW.v (ov_assign rfl) ?_
        refine LW.nil ?_
        refine KW.thenN ?_
        refine CW.seq ?_
        refine CW.seq ?_
        refine CW.region ?_
        refine LW.v (ov_move rfl) ?_
        refine LW.v (OpV.eq (ov_neq rfl rfl) (congrArg Value.bool (decide_eq_false (by first | omega | assumption)))) ?_
        refine LW.v (ov_move rfl) ?_
        refine LW.v (ov_move rfl) ?_
        refine LW.v (OpV.eq (ov_lss rfl rfl) (congrArg Value.bool (decide_eq_false (by first | omega | assumption)))) ?_
        first | refine LW.v (ov_pickT rfl rfl) ?_ | refine LW.v (ov_pickF rfl rfl) ?_ | refine LW.v (ov_pick rfl rfl rfl) ?_
        refine LW.v (ov_move rfl) ?_
        refine LW.v (ov_move rfl) ?_
        refine LW.v (OpV.eq (ov_gtr rfl rfl) (congrArg Value.bool (decide_eq_false (by first | omega | assumption)))) ?_
        first | refine LW.v (ov_pickT rfl rfl) ?_ | refine LW.v (ov_pickF rfl rfl) ?_ | refine LW.v (ov_pick rfl rfl rfl) ?_
        refine LW.v (ov_move rfl) ?_
        refine LW.v (ov_move rfl) ?_
        refine LW.v (ov_idxA (i := k) ar38 ta3 rfl rfl rfl hk) ?_
        refine LW.v (ov_loadR 2 ta3 rfl rfl hgp) ?_
        refine LW.v (OpV.eq (ov_lss rfl rfl) (congrArg Value.bool (decide_eq_false (by first | omega | assumption)))) ?_
        first | refine LW.v (ov_pickT rfl rfl) ?_ | refine LW.v (ov_pickF rfl rfl) ?_ | refine LW.v (ov_pick rfl rfl rfl) ?_
        refine LW.v (ov_move rfl) ?_
        refine LW.v (ov_move rfl) ?_
        refine LW.v (ov_idxA (i := k) ar38 ta3 rfl rfl rfl hk) ?_
        refine LW.v (ov_loadR 2 ta3 rfl rfl hgp) ?_
        refine LW.v (OpV.eq (ov_gtr rfl rfl) (congrArg Value.bool (decide_eq_false (by first | omega | assumption)))) ?_
        first | refine LW.v (ov_pickT rfl rfl) ?_ | refine LW.v (ov_pickF rfl rfl) ?_ | refine LW.v (ov_pick rfl rfl rfl) ?_
        refine LW.v (ov_move rfl) ?_
        refine LW.v (ov_move rfl) ?_
        refine LW.v (ov_idxA (i := k) ar38 ta3 rfl rfl rfl hk) ?_
        refine LW.v (ov_loadR 3 ta3 rfl rfl hgs) ?_
        refine LW.v (OpV.eq (ov_lss rfl rfl) (congrArg Value.bool (decide_eq_false (by first | omega | assumption)))) ?_
        first | refine LW.v (ov_pickT rfl rfl) ?_ | refine LW.v (ov_pickF rfl rfl) ?_ | refine LW.v (ov_pick rfl rfl rfl) ?_
        refine LW.v (ov_move rfl) ?_
        refine LW.v (ov_move rfl) ?_
        refine LW.v (ov_idxA (i := k) ar38 ta3 rfl rfl rfl hk) ?_
        refine LW.v (ov_loadR 3 ta3 rfl rfl hgs) ?_
        refine LW.v (OpV.eq (ov_gtr rfl rfl) (congrArg Value.bool (decide_eq_false (by first | omega | assumption)))) ?_
        first | refine LW.v (ov_pickT rfl rfl) ?_ | refine LW.v (ov_pickF rfl rfl) ?_ | refine LW.v (ov_pick rfl rfl rfl) ?_
        refine LW.nil ?_
        refine KW.thenN ?_
        refine CW.condF rfl rfl ?_
        refine CW.skip ?_
        refine KW.thenN ?_
        have hlen0 : (rm0 craft size prio share ps).length = 43 := by simp [rm0, iv, hp, hs, hps]
        refine CW.region ?_
        refine LW.v (ov_move rfl) ?_
        refine LW.v (ov_move rfl) ?_
        refine LW.v (ov_move rfl) ?_
        refine LW.v (ov_nilP rfl) ?_
        refine LW.v (ov_fieldAddr fo120_4 rfl) ?_
        refine LW.v (ov_idxA (i := k) ar118 ta117 rfl rfl rfl hk) ?_
        refine LW.opU (ou_storeR ta117 rfl rfl (.one rfl) rfl rfl (by omega) (rm0_set hp hs hps hk _) (.t (.t (.t (.t (.h)))))) rfl ?_
        refine LW.nil ?_
        refine KW.blockN ?_
        refine KW.thenN ?_
        refine CW.region ?_
        refine LW.v (ov_move rfl) ?_
        first | refine LW.v (ov_add rfl rfl (by omega)) ?_ | refine LW.v (ov_addW rfl rfl) ?_
        refine LW.v (ov_assign rfl) ?_
        refine LW.nil ?_
        have hszn : (size : Int) = (size.toNat : Int) := by omega
        have hfs : rfils (l ++ [⟨p, prio.getD k 0, share.getD k 0, 0, 0, ⟨size.toNat, [], false, []⟩⟩]) = bigS ((l.map fun s => rfilA s.p s.fl) ++ [rfilA p ⟨size.toNat, [], false, []⟩]) := by rw [rfils, List.map_append]; rfl
        have hin' : ∀ i, i < k + 1 → inR prio share i := fun i q => by
          by_cases e : i = k
          · rw [e]; exact hi.2
          · exact hin i (by omega)
        refine KW.turn (fun w hs => (Sat.bigPush (l := l.map fun s => rfilA s.p s.fl) (A := rfilA p ⟨size.toNat, [], false, []⟩) (hs.imp 5 (B := rfilA p ⟨size.toNat, [], false, []⟩) rfl (fun g hg => rfil_new (by rw [← hszn]; exact hg))) 1 5 rfl rfl (by decide))) ?_
        refine KW.again (r - 1) [0, 1, 2, 3, 4] (by omega) ⟨k + 1, l ++ [⟨p, prio.getD k 0, share.getD k 0, 0, 0, ⟨size.toNat, [], false, []⟩⟩], ps.set k (P1 p 0), by omega, hl.snoc p, hin', fun _ => ⟨hi.1.1, hi.1.2, hz.1, hz.2⟩, by rw [List.length_set]; exact hps, ?_, rfl, rfl⟩ ⟨rfl, rfl, rfl, rfl, rfl, rfl, trivial⟩ rfl (by rw [hfs]; rfl)
        rw [List.map_append, ← hpt, List.take_succ_eq_append_getElem (by rw [List.length_set]; omega), List.take_set_of_le (Nat.le_refl _), List.getElem_set_self]; rfl
      · have hno : ¬ okN craft size prio share := fun q => hi ⟨⟨q.1, q.2.1⟩, q.2.2.2.2 k hk⟩
        unfold inR at hi
        have hlen0 : (rm0 craft size prio share ps).length = 43 := by simp [rm0, iv, hp, hs, hps]
        refine CW.skip ?_
        refine KW.thenN ?_
        refine CW.seq ?_
        refine CW.block ?_
        refine CW.seq ?_
        refine CW.region ?_
        refine LW.v (ov_move rfl) ?_
        refine LW.call [] (oc_fn cf45 rfl) rfl rfl rfl rfl (hnew') ?_
        rintro _ _ ⟨p, rfl, rfl⟩
        simp only [putBack, List.cons_append, List.nil_append]
        refine LW.v (ov_move rfl) ?_
        refine LW.v (ov_extract rfl rfl) ?_
        refine LW.v (ov_extract rfl rfl) ?_
        refine LW.v (ov_assign rfl) ?_
        refine LW.v (ov_assign rfl) ?_
        refine LW.nil ?_
        refine KW.thenN ?_
        refine CW.seq ?_
        refine CW.seq ?_
        refine CW.region ?_
        refine LW.v (ov_move rfl) ?_
        refine LW.v (OpV.eq (ov_neq rfl rfl) (congrArg Value.bool (decide_eq_false (by first | omega | assumption)))) ?_
        refine LW.v (ov_move rfl) ?_
        refine LW.v (ov_move rfl) ?_
        refine LW.v (ov_lss rfl rfl) ?_
        first | refine LW.v (ov_pickT rfl rfl) ?_ | refine LW.v (ov_pickF rfl rfl) ?_ | refine LW.v (ov_pick rfl rfl rfl) ?_
        refine LW.v (ov_move rfl) ?_
        first | refine KW.splitD 35 rfl (fun h35 => ?_) (fun h35 => ?_) | refine KW.split 35 rfl (fun h35 => ?_) (fun h35 => ?_)
        · refine LW.skip rfl rfl ?_
          refine LW.skip rfl rfl ?_
          first | refine LW.v (ov_pickT rfl rfl) ?_ | refine LW.v (ov_pickF rfl rfl) ?_ | refine LW.v (ov_pick rfl rfl rfl) ?_
          refine LW.v (ov_move rfl) ?_
          refine LW.skip rfl rfl ?_
          refine LW.skip rfl rfl ?_
          refine LW.skip rfl rfl ?_
          refine LW.skip rfl rfl ?_
          first | refine LW.v (ov_pickT rfl rfl) ?_ | refine LW.v (ov_pickF rfl rfl) ?_ | refine LW.v (ov_pick rfl rfl rfl) ?_
          refine LW.v (ov_move rfl) ?_
          refine LW.skip rfl rfl ?_
          refine LW.skip rfl rfl ?_
          refine LW.skip rfl rfl ?_
          refine LW.skip rfl rfl ?_
          first | refine LW.v (ov_pickT rfl rfl) ?_ | refine LW.v (ov_pickF rfl rfl) ?_ | refine LW.v (ov_pick rfl rfl rfl) ?_
          refine LW.v (ov_move rfl) ?_
          refine LW.skip rfl rfl ?_
          refine LW.skip rfl rfl ?_
          refine LW.skip rfl rfl ?_
          refine LW.skip rfl rfl ?_
          first | refine LW.v (ov_pickT rfl rfl) ?_ | refine LW.v (ov_pickF rfl rfl) ?_ | refine LW.v (ov_pick rfl rfl rfl) ?_
          refine LW.v (ov_move rfl) ?_
          refine LW.skip rfl rfl ?_
          refine LW.skip rfl rfl ?_
          refine LW.skip rfl rfl ?_
          refine LW.skip rfl rfl ?_
          first | refine LW.v (ov_pickT rfl rfl) ?_ | refine LW.v (ov_pickF rfl rfl) ?_ | refine LW.v (ov_pick rfl rfl rfl) ?_
          refine LW.nil ?_
          refine KW.thenN ?_
          refine CW.condT rfl rfl ?_
          refine CW.seq ?_
          refine CW.region ?_
          refine LW.v (ov_assign rfl) ?_
          refine LW.v (ov_assign rfl) ?_
          refine LW.nil ?_
          refine KW.thenN ?_
          refine CW.ret ?_
          refine KW.thenR ?_
          refine KW.blockR ?_
          refine KW.thenR ?_
          refine KW.thenR ?_
          refine KW.blockR ?_
          refine KW.thenR ?_
          first | (exfalso; omega) | exact KW.retF (.cons (.tmp rfl) (.cons (.tmp rfl) .nil)) [] rfl rfl ⟨fun q => absurd q hno, fun _ => rfl⟩
        · refine LW.v (ov_move rfl) ?_
          refine LW.v (ov_gtr rfl rfl) ?_
          first | refine LW.v (ov_pickT rfl rfl) ?_ | refine LW.v (ov_pickF rfl rfl) ?_ | refine LW.v (ov_pick rfl rfl rfl) ?_
          refine LW.v (ov_move rfl) ?_
          first | refine KW.splitD 39 rfl (fun h39 => ?_) (fun h39 => ?_) | refine KW.split 39 rfl (fun h39 => ?_) (fun h39 => ?_)
          · refine LW.skip rfl rfl ?_
            refine LW.skip rfl rfl ?_
            refine LW.skip rfl rfl ?_
            refine LW.skip rfl rfl ?_
            first | refine LW.v (ov_pickT rfl rfl) ?_ | refine LW.v (ov_pickF rfl rfl) ?_ | refine LW.v (ov_pick rfl rfl rfl) ?_
            refine LW.v (ov_move rfl) ?_
            refine LW.skip rfl rfl ?_
            refine LW.skip rfl rfl ?_
            refine LW.skip rfl rfl ?_
            refine LW.skip rfl rfl ?_
            first | refine LW.v (ov_pickT rfl rfl) ?_ | refine LW.v (ov_pickF rfl rfl) ?_ | refine LW.v (ov_pick rfl rfl rfl) ?_
            refine LW.v (ov_move rfl) ?_
            refine LW.skip rfl rfl ?_
            refine LW.skip rfl rfl ?_
            refine LW.skip rfl rfl ?_
            refine LW.skip rfl rfl ?_
            first | refine LW.v (ov_pickT rfl rfl) ?_ | refine LW.v (ov_pickF rfl rfl) ?_ | refine LW.v (ov_pick rfl rfl rfl) ?_
            refine LW.v (ov_move rfl) ?_
            refine LW.skip rfl rfl ?_
            refine LW.skip rfl rfl ?_
            refine LW.skip rfl rfl ?_
            refine LW.skip rfl rfl ?_
            first | refine LW.v (ov_pickT rfl rfl) ?_ | refine LW.v (ov_pickF rfl rfl) ?_ | refine LW.v (ov_pick rfl rfl rfl) ?_
            refine LW.nil ?_
            refine KW.thenN ?_
            refine CW.condT rfl rfl ?_
            refine CW.seq ?_
            refine CW.region ?_
            refine LW.v (ov_assign rfl) ?_
            refine LW.v (ov_assign rfl) ?_
            refine LW.nil ?_
            refine KW.thenN ?_
            refine CW.ret ?_
            refine KW.thenR ?_
            refine KW.blockR ?_
            refine KW.thenR ?_
            refine KW.thenR ?_
            refine KW.blockR ?_
            refine KW.thenR ?_
            first | (exfalso; omega) | exact KW.retF (.cons (.tmp rfl) (.cons (.tmp rfl) .nil)) [] rfl rfl ⟨fun q => absurd q hno, fun _ => rfl⟩
          · refine LW.v (ov_move rfl) ?_
            refine LW.v (ov_idxA (i := k) ar38 ta3 rfl rfl rfl hk) ?_
            refine LW.v (ov_loadR 2 ta3 rfl rfl hgp) ?_
            refine LW.v (ov_lss rfl rfl) ?_
            first | refine LW.v (ov_pickT rfl rfl) ?_ | refine LW.v (ov_pickF rfl rfl) ?_ | refine LW.v (ov_pick rfl rfl rfl) ?_
            refine LW.v (ov_move rfl) ?_
            first | refine KW.splitD 45 rfl (fun h45 => ?_) (fun h45 => ?_) | refine KW.split 45 rfl (fun h45 => ?_) (fun h45 => ?_)
            · refine LW.skip rfl rfl ?_
              refine LW.skip rfl rfl ?_
              refine LW.skip rfl rfl ?_
              refine LW.skip rfl rfl ?_
              first | refine LW.v (ov_pickT rfl rfl) ?_ | refine LW.v (ov_pickF rfl rfl) ?_ | refine LW.v (ov_pick rfl rfl rfl) ?_
              refine LW.v (ov_move rfl) ?_
              refine LW.skip rfl rfl ?_
              refine LW.skip rfl rfl ?_
              refine LW.skip rfl rfl ?_
              refine LW.skip rfl rfl ?_
              first | refine LW.v (ov_pickT rfl rfl) ?_ | refine LW.v (ov_pickF rfl rfl) ?_ | refine LW.v (ov_pick rfl rfl rfl) ?_
              refine LW.v (ov_move rfl) ?_
              refine LW.skip rfl rfl ?_
              refine LW.skip rfl rfl ?_
              refine LW.skip rfl rfl ?_
              refine LW.skip rfl rfl ?_
              first | refine LW.v (ov_pickT rfl rfl) ?_ | refine LW.v (ov_pickF rfl rfl) ?_ | refine LW.v (ov_pick rfl rfl rfl) ?_
              refine LW.nil ?_
              refine KW.thenN ?_
              refine CW.condT rfl rfl ?_
              refine CW.seq ?_
              refine CW.region ?_
              refine LW.v (ov_assign rfl) ?_
              refine LW.v (ov_assign rfl) ?_
              refine LW.nil ?_
              refine KW.thenN ?_
              refine CW.ret ?_
              refine KW.thenR ?_
              refine KW.blockR ?_
              refine KW.thenR ?_
              refine KW.thenR ?_
              refine KW.blockR ?_
              refine KW.thenR ?_
              first | (exfalso; omega) | exact KW.retF (.cons (.tmp rfl) (.cons (.tmp rfl) .nil)) [] rfl rfl ⟨fun q => absurd q hno, fun _ => rfl⟩
            · refine LW.v (ov_move rfl) ?_
              refine LW.v (ov_idxA (i := k) ar38 ta3 rfl rfl rfl hk) ?_
              refine LW.v (ov_loadR 2 ta3 rfl rfl hgp) ?_
              refine LW.v (ov_gtr rfl rfl) ?_
              first | refine LW.v (ov_pickT rfl rfl) ?_ | refine LW.v (ov_pickF rfl rfl) ?_ | refine LW.v (ov_pick rfl rfl rfl) ?_
              refine LW.v (ov_move rfl) ?_
              first | refine KW.splitD 51 rfl (fun h51 => ?_) (fun h51 => ?_) | refine KW.split 51 rfl (fun h51 => ?_) (fun h51 => ?_)
              · refine LW.skip rfl rfl ?_
                refine LW.skip rfl rfl ?_
                refine LW.skip rfl rfl ?_
                refine LW.skip rfl rfl ?_
                first | refine LW.v (ov_pickT rfl rfl) ?_ | refine LW.v (ov_pickF rfl rfl) ?_ | refine LW.v (ov_pick rfl rfl rfl) ?_
                refine LW.v (ov_move rfl) ?_
                refine LW.skip rfl rfl ?_
                refine LW.skip rfl rfl ?_
                refine LW.skip rfl rfl ?_
                refine LW.skip rfl rfl ?_
                first | refine LW.v (ov_pickT rfl rfl) ?_ | refine LW.v (ov_pickF rfl rfl) ?_ | refine LW.v (ov_pick rfl rfl rfl) ?_
                refine LW.nil ?_
                refine KW.thenN ?_
                refine CW.condT rfl rfl ?_
                refine CW.seq ?_
                refine CW.region ?_
                refine LW.v (ov_assign rfl) ?_
                refine LW.v (ov_assign rfl) ?_
                refine LW.nil ?_
                refine KW.thenN ?_
                refine CW.ret ?_
                refine KW.thenR ?_
                refine KW.blockR ?_
                refine KW.thenR ?_
                refine KW.thenR ?_
                refine KW.blockR ?_
                refine KW.thenR ?_
                first | (exfalso; omega) | exact KW.retF (.cons (.tmp rfl) (.cons (.tmp rfl) .nil)) [] rfl rfl ⟨fun q => absurd q hno, fun _ => rfl⟩
              · refine LW.v (ov_move rfl) ?_
                refine LW.v (ov_idxA (i := k) ar38 ta3 rfl rfl rfl hk) ?_
                refine LW.v (ov_loadR 3 ta3 rfl rfl hgs) ?_
                refine LW.v (ov_lss rfl rfl) ?_
                first | refine LW.v (ov_pickT rfl rfl) ?_ | refine LW.v (ov_pickF rfl rfl) ?_ | refine LW.v (ov_pick rfl rfl rfl) ?_
                refine LW.v (ov_move rfl) ?_
                first | refine KW.splitD 57 rfl (fun h57 => ?_) (fun h57 => ?_) | refine KW.split 57 rfl (fun h57 => ?_) (fun h57 => ?_)
                · refine LW.skip rfl rfl ?_
                  refine LW.skip rfl rfl ?_
                  refine LW.skip rfl rfl ?_
                  refine LW.skip rfl rfl ?_
                  first | refine LW.v (ov_pickT rfl rfl) ?_ | refine LW.v (ov_pickF rfl rfl) ?_ | refine LW.v (ov_pick rfl rfl rfl) ?_
                  refine LW.nil ?_
                  refine KW.thenN ?_
                  refine CW.condT rfl rfl ?_
                  refine CW.seq ?_
                  refine CW.region ?_
                  refine LW.v (ov_assign rfl) ?_
                  refine LW.v (ov_assign rfl) ?_
                  refine LW.nil ?_
                  refine KW.thenN ?_
                  refine CW.ret ?_
                  refine KW.thenR ?_
                  refine KW.blockR ?_
                  refine KW.thenR ?_
                  refine KW.thenR ?_
                  refine KW.blockR ?_
                  refine KW.thenR ?_
                  first | (exfalso; omega) | exact KW.retF (.cons (.tmp rfl) (.cons (.tmp rfl) .nil)) [] rfl rfl ⟨fun q => absurd q hno, fun _ => rfl⟩
                · refine LW.v (ov_move rfl) ?_
                  refine LW.v (ov_idxA (i := k) ar38 ta3 rfl rfl rfl hk) ?_
                  refine LW.v (ov_loadR 3 ta3 rfl rfl hgs) ?_
                  refine LW.v (ov_gtr rfl rfl) ?_
                  first | refine LW.v (ov_pickT rfl rfl) ?_ | refine LW.v (ov_pickF rfl rfl) ?_ | refine LW.v (ov_pick rfl rfl rfl) ?_
                  refine LW.nil ?_
                  refine KW.thenN ?_
                  first | refine KW.splitD 62 rfl (fun h62 => ?_) (fun h62 => ?_) | refine KW.split 62 rfl (fun h62 => ?_) (fun h62 => ?_)
                  · refine CW.condT rfl rfl ?_
                    refine CW.seq ?_
                    refine CW.region ?_
                    refine LW.v (ov_assign rfl) ?_
                    refine LW.v (ov_assign rfl) ?_
                    refine LW.nil ?_
                    refine KW.thenN ?_
                    refine CW.ret ?_
                    refine KW.thenR ?_
                    refine KW.blockR ?_
                    refine KW.thenR ?_
                    refine KW.thenR ?_
                    refine KW.blockR ?_
                    refine KW.thenR ?_
                    first | (exfalso; omega) | exact KW.retF (.cons (.tmp rfl) (.cons (.tmp rfl) .nil)) [] rfl rfl ⟨fun q => absurd q hno, fun _ => rfl⟩
                  · refine CW.condF rfl rfl ?_
                    refine CW.skip ?_
                    refine KW.thenN ?_
                    refine CW.region ?_
                    refine LW.v (ov_move rfl) ?_
                    refine LW.v (ov_move rfl) ?_
                    refine LW.v (ov_move rfl) ?_
                    refine LW.v (ov_nilP rfl) ?_
                    refine LW.v (ov_fieldAddr fo120_4 rfl) ?_
                    refine LW.v (ov_idxA (i := k) ar118 ta117 rfl rfl rfl hk) ?_
                    first | (exfalso; omega) | exact KW.retF (.cons (.tmp rfl) (.cons (.tmp rfl) .nil)) [] rfl rfl ⟨fun q => absurd q hno, fun _ => rfl⟩
    · have hno : ¬ okN craft size prio share := fun q => hz ⟨q.2.2.1, q.2.2.2.1⟩
      have hnew' : Fn Try.prog 45 #[.int .i64 size] [] (Ret fun v Q => v = .tuple #[.pointer none, .int .i64 2] ∧ Q = []) := hnew.ret fun v Q q => q.2 hz
      refine CW.skip ?_
      refine KW.thenN ?_
      refine CW.seq ?_
      refine CW.block ?_
      refine CW.seq ?_
      refine CW.region ?_
      refine LW.v (ov_move rfl) ?_
      refine LW.call [] (oc_fn cf45 rfl) rfl rfl rfl rfl (hnew') ?_
      rintro _ _ ⟨rfl, rfl⟩
      simp only [putBack, List.append_nil]
      refine LW.v (ov_move rfl) ?_
      refine LW.v (ov_extract rfl rfl) ?_
      refine LW.v (ov_extract rfl rfl) ?_
      refine LW.v (ov_assign rfl) ?_
      refine LW.v (ov_assign rfl) ?_
      refine LW.nil ?_
      refine KW.thenN ?_
      refine CW.seq ?_
      refine CW.seq ?_
      refine CW.region ?_
      refine LW.v (ov_move rfl) ?_
      refine LW.v (OpV.eq (ov_neq rfl rfl) (congrArg Value.bool (decide_eq_true (by first | omega | assumption)))) ?_
      refine LW.v (ov_move rfl) ?_
      refine LW.skip rfl rfl ?_
      refine LW.skip rfl rfl ?_
      first | refine LW.v (ov_pickT rfl rfl) ?_ | refine LW.v (ov_pickF rfl rfl) ?_ | refine LW.v (ov_pick rfl rfl rfl) ?_
      refine LW.v (ov_move rfl) ?_
      refine LW.skip rfl rfl ?_
      refine LW.skip rfl rfl ?_
      first | refine LW.v (ov_pickT rfl rfl) ?_ | refine LW.v (ov_pickF rfl rfl) ?_ | refine LW.v (ov_pick rfl rfl rfl) ?_
      refine LW.v (ov_move rfl) ?_
      refine LW.skip rfl rfl ?_
      refine LW.skip rfl rfl ?_
      refine LW.skip rfl rfl ?_
      refine LW.skip rfl rfl ?_
      first | refine LW.v (ov_pickT rfl rfl) ?_ | refine LW.v (ov_pickF rfl rfl) ?_ | refine LW.v (ov_pick rfl rfl rfl) ?_
      refine LW.v (ov_move rfl) ?_
      refine LW.skip rfl rfl ?_
      refine LW.skip rfl rfl ?_
      refine LW.skip rfl rfl ?_
      refine LW.skip rfl rfl ?_
      first | refine LW.v (ov_pickT rfl rfl) ?_ | refine LW.v (ov_pickF rfl rfl) ?_ | refine LW.v (ov_pick rfl rfl rfl) ?_
      refine LW.v (ov_move rfl) ?_
      refine LW.skip rfl rfl ?_
      refine LW.skip rfl rfl ?_
      refine LW.skip rfl rfl ?_
      refine LW.skip rfl rfl ?_
      first | refine LW.v (ov_pickT rfl rfl) ?_ | refine LW.v (ov_pickF rfl rfl) ?_ | refine LW.v (ov_pick rfl rfl rfl) ?_
      refine LW.v (ov_move rfl) ?_
      refine LW.skip rfl rfl ?_
      refine LW.skip rfl rfl ?_
      refine LW.skip rfl rfl ?_
      refine LW.skip rfl rfl ?_
      first | refine LW.v (ov_pickT rfl rfl) ?_ | refine LW.v (ov_pickF rfl rfl) ?_ | refine LW.v (ov_pick rfl rfl rfl) ?_
      refine LW.nil ?_
      refine KW.thenN ?_
      refine CW.condT rfl rfl ?_
      refine CW.seq ?_
      refine CW.region ?_
      refine LW.v (ov_assign rfl) ?_
      refine LW.v (ov_assign rfl) ?_
      refine LW.nil ?_
      refine KW.thenN ?_
      refine CW.ret ?_
      refine KW.thenR ?_
      refine KW.blockR ?_
      refine KW.thenR ?_
      refine KW.thenR ?_
      refine KW.blockR ?_
      refine KW.thenR ?_
      exact KW.retF (.cons (.tmp rfl) (.cons (.tmp rfl) (.nil))) [] rfl rfl (⟨fun q => absurd q hno, fun _ => rfl⟩)
  · obtain rfl : k = 8 := by omega
    have hz := hsz (by decide)
    have hyes : okN craft size prio share := ⟨hz.1, hz.2.1, hz.2.2.1, hz.2.2.2, hin⟩
    have hszn : (size : Int) = (size.toNat : Int) := by omega
    have hpe2 : ps = l.map (fun s => P1 s.p 0) := by rw [← hpt, List.take_of_length_le (by omega)]
    have hrm : rm0 craft size prio share ps = rmC ⟨craft, size, 0, l⟩ := by
      have := rm0_eq (craft := craft) hp hs hl
      rw [← hpe2, ← hszn] at this; exact this
    rw [hrm]
    refine CW.exit ?_
    refine KW.thenX ?_
    refine KW.thenX ?_
    refine KW.hit ?_
    refine KW.thenN ?_
    refine CW.seq ?_
    refine CW.region ?_
    refine LW.v (ov_move rfl) ?_
    refine LW.v (ov_assign rfl) ?_
    refine LW.v (ov_assign rfl) ?_
    refine LW.nil ?_
    refine KW.thenN ?_
    refine CW.ret ?_
    exact KW.retF (.cons (.tmp rfl) (.cons (.tmp rfl) (.nil))) [4, 1] rfl rfl (⟨fun _ => ⟨b19, l, rfl, hl, rfl⟩, fun q => absurd hyes q⟩)
end Sx
end Go.Proofs.Ytdgphamhpjnmpaa

/- Demuxes: what they know, what a frame brings; the small functions. -/
namespace Go.Proofs.Ytdgphamhpjnmpaa
namespace Sx

structure Snk where
  known : Bool
  frame : List UInt8
  count : Int
  begun : Bool
  part : List UInt8
structure Arr where
  ch : Int
  dbl : Bool
  lost : Int
  missed : Int
  pks : List (List UInt8)
  broken : Int
  word : Int
abbrev snkC (s : Snk) : List Value := [.bool s.known, S s.frame, .int .i64 s.count, .bool s.begun, S s.part]
abbrev arow (o : Nat) (ad : Option Addr) (c : Nat) (a : Arr) : HP := row o 33 [.int .i64 a.ch, .bool a.dbl, .int .i64 a.lost, .int .i64 a.missed, .slice ad a.pks.length c, .int .i64 a.broken, .int .u32 a.word]
abbrev pown (ad : Option Addr) (c : Nat) (a : Arr) : HP := ownS 9 1 (.slice ad a.pks.length c) a.pks.length (a.pks.map S)
/-- an arrival and its packets -/
def arrA (o : Nat) (a : Arr) : HP := Ex fun x : Option Addr × Nat => star (arow o x.1 x.2 a) (pown x.1 x.2 a)
theorem arr_in {o : Nat} {ad : Option Addr} {c : Nat} {a : Arr} {h : Hl} (hs : star (arow o ad c a) (pown ad c a) h) : arrA o a h := ⟨(ad, c), hs⟩
section
variable {C : Cx} {ds : List Deferred} {env : Env} {As : List HP} {K : Act → World → Prop}
theorem KW.arrOpen (i : Nat) {o : Nat} {a : Arr} (hi : As[i]? = some (arrA o a)) (h : ∀ ad c, KW C ds K env (As.set i (arow o ad c a) ++ [pown ad c a])) : KW C ds K env As := by
  refine KW.turnEx i hi fun x => ?_
  refine KW.turn (fun w hs => hs.split i (by rw [List.getElem?_set_self (lt_of_get hi)])) ?_
  rw [List.set_set]; exact h x.1 x.2
theorem KW.arrShut (i j : Nat) {o : Nat} {ad : Option Addr} {c : Nat} {a : Arr} (hi : As[i]? = some (arow o ad c a)) (hj : As[j]? = some (pown ad c a)) (hij : i ≠ j) {As' : List HP} (he : (As.set i (arrA o a)).set j emp = As') (h : KW C ds K env As') : KW C ds K env As := by
  subst he
  refine KW.turn (fun w hs => ?_) h
  have h1 := hs.join i j hi hj hij
  have hl := lt_of_get hi
  have h2 := h1.imp i (A := star (arow o ad c a) (pown ad c a)) (B := arrA o a) (by rw [List.getElem?_set_ne (Ne.symm hij), List.getElem?_set_self hl]) (fun g hg => arr_in hg)
  rw [List.set_comm _ _ hij, List.set_set, List.set_comm _ _ (Ne.symm hij)] at h2
  exact h2
end
theorem behind_ok (m n : Int) (hm : -100000 ≤ m ∧ m ≤ 100000) (hn : -100000 ≤ n ∧ n ≤ 100000) : Fn Try.prog 30 #[.int .i64 m, .int .i64 n] [] (Ret fun v Q => v = .int .i64 ((m - n - 1) % 256) ∧ Q = []) := by
  refine Fn.of (args := _) Try.func30 rfl Try.ntmps30 rfl ?_
  intro w0 g0
  refine CW.seq ?_
  refine CW.region ?_
  refine LW.v (ov_assign rfl) ?_
  refine LW.nil ?_
  refine KW.thenN ?_
  refine CW.seq ?_
  refine CW.region ?_
  refine LW.v (ov_move rfl) ?_
  refine LW.v (ov_move rfl) ?_
  first | refine LW.v (ov_sub rfl rfl (by omega)) ?_ | refine LW.v (ov_subW rfl rfl) ?_
  first | refine LW.v (ov_sub rfl rfl (by omega)) ?_ | refine LW.v (ov_subW rfl rfl) ?_
  first | refine LW.v (ov_maskC (c := 256) 8 rfl rfl (by decide) (by decide) (by decide)) ?_ | refine LW.v (ov_and rfl rfl) ?_
  refine LW.v (ov_assign rfl) ?_
  refine LW.nil ?_
  refine KW.thenN ?_
  refine CW.ret ?_
  exact KW.retF (.cons (.tmp rfl) (.nil)) [] rfl rfl (⟨rfl, rfl⟩)
def dlv (a : Arr) (apid : Int) (b : List UInt8) : Arr := if apid = 2047 then a else { a with pks := a.pks ++ [b] }
theorem deliver_ok {o : Nat} {a : Arr} {p : Pk} {b : List UInt8} (hb : b.length ≤ 1000000) (ha : a.pks.length ≤ 1000000) : Fn Try.prog 58 #[P1 o 0, pkv p, S b] [arrA o a] (Ret fun _ Q => Q = [arrA o (dlv a p.apid b)]) := by
  refine Fn.of (args := _) Try.func58 rfl Try.ntmps58 rfl ?_
  intro w0 g0
  refine KW.arrOpen 1 rfl (fun ad c => ?_)
  simp only [List.set_cons_succ, List.set_cons_zero, List.cons_append, List.nil_append]
  refine CW.seq ?_
  refine CW.region ?_
  refine LW.opBA (ob_box rfl .agg (fun _ => .c (.c (.c (.n))))) rfl rfl (fun b4 => ?_)
  refine LW.nil ?_
  refine KW.thenN ?_
  refine CW.seq ?_
  refine CW.region ?_
  refine LW.v (ov_fieldAddr fo110_1 rfl) ?_
  refine LW.v (ov_loadR 3 ta3 rfl rfl rfl) ?_
  refine LW.v (ov_neq rfl rfl) ?_
  refine LW.nil ?_
  refine KW.thenN ?_
  refine CW.condD (by rfl) (fun h => ?_) (fun h => ?_)
  · have hd : dlv a p.apid b = { a with pks := a.pks ++ [b] } := by rw [dlv, if_neg h]
    rw [hd]
    refine CW.draw [] rfl mixed rfl (ls := #[false, false, false, false, false, false, false, false, false, false, false, false]) (by kernel_rfl) ?_
    refine DW.tk 0 [] rfl (ov_move rfl) ?_
    refine DW.tk 1 [] rfl (ov_move rfl) ?_
    first | refine DW.tk 2 [] rfl (ov_nilP rfl) ?_ | refine DW.tk 2 [] rfl (ov_nilF rfl) ?_
    refine DW.tk 3 [] rfl (ov_fieldAddr fo33_4 rfl) ?_
    refine DW.tk 5 [] rfl (ov_move rfl) ?_
    refine DW.all2 4 6 (by kernel_rfl) ?_ ?_
    · refine DO.opV [] rfl (ov_loadR 1 ta22 rfl rfl rfl) rfl rfl rfl rfl rfl ?_
      refine DW.all1 6 (by kernel_rfl) ?_
      refine DO.call [] [] rfl (oc_fn cf31 rfl) rfl rfl rfl rfl (Clone_ok (l := b) (by omega)) (by rintro _ _ ⟨rfl, rfl⟩; exact ⟨rfl, rfl⟩) rfl ?_
      rintro _ _ ⟨rfl, rfl⟩
      simp only [putBack, List.append_nil]
      refine DW.all1 7 (by kernel_rfl) ?_
      refine DO.opBA [] rfl (ob_bs1 so22 zc9 (xs := [_]) rfl rfl rfl (by decide) rfl (fun _ => .c (.c (.c (.c (.n)))))) rfl rfl (fun _ => rfl) (fun _ => rfl) rfl (fun b16 => ?_)
      refine DW.all1 8 (by kernel_rfl) ?_
      refine DO.opX [] rfl (ox_appR 4 so22 zo9 rfl so22 rfl rfl rfl rfl rfl (by omega) (by omega) (by omega) (fun _ => .t (.t (.h)))) rfl rfl (fun _ => rfl) (fun _ => rfl) rfl (fun a17 c17 => ?_)
      first | refine DW.tk 9 [] rfl (ov_nilP rfl) ?_ | refine DW.tk 9 [] rfl (ov_nilF rfl) ?_
      refine DW.tk 10 [] rfl (ov_fieldAddr fo33_4 rfl) ?_
      refine DW.all1 11 (by kernel_rfl) ?_
      refine DO.opU [] rfl (ou_storeW ta22 rfl rfl (.one rfl) rfl rfl (.t (.t (.t (.t (.h (.n)))))) (.t (.h))) rfl rfl rfl rfl ?_
      refine DW.done (by kernel_rfl) ?_
      refine KW.arrShut (a := { a with pks := a.pks ++ [b] }) 1 2 (by rw [arow, List.length_append]; rfl) (by rw [pown, List.length_append, List.map_append]; rfl) (by decide) rfl ?_
      exact KW.endF .nil [1] rfl rfl rfl
    · refine DO.call [] [] rfl (oc_fn cf31 rfl) rfl rfl rfl rfl (Clone_ok (l := b) (by omega)) (by rintro _ _ ⟨rfl, rfl⟩; exact ⟨rfl, rfl⟩) rfl ?_
      rintro _ _ ⟨rfl, rfl⟩
      simp only [putBack, List.append_nil]
      refine DW.all2 4 7 (by kernel_rfl) ?_ ?_
      · refine DO.opV [] rfl (ov_loadR 1 ta22 rfl rfl rfl) rfl rfl rfl rfl rfl ?_
        refine DW.all1 7 (by kernel_rfl) ?_
        refine DO.opBA [] rfl (ob_bs1 so22 zc9 (xs := [_]) rfl rfl rfl (by decide) rfl (fun _ => .c (.c (.c (.c (.n)))))) rfl rfl (fun _ => rfl) (fun _ => rfl) rfl (fun b16 => ?_)
        refine DW.all1 8 (by kernel_rfl) ?_
        refine DO.opX [] rfl (ox_appR 4 so22 zo9 rfl so22 rfl rfl rfl rfl rfl (by omega) (by omega) (by omega) (fun _ => .t (.t (.h)))) rfl rfl (fun _ => rfl) (fun _ => rfl) rfl (fun a17 c17 => ?_)
        first | refine DW.tk 9 [] rfl (ov_nilP rfl) ?_ | refine DW.tk 9 [] rfl (ov_nilF rfl) ?_
        refine DW.tk 10 [] rfl (ov_fieldAddr fo33_4 rfl) ?_
        refine DW.all1 11 (by kernel_rfl) ?_
        refine DO.opU [] rfl (ou_storeW ta22 rfl rfl (.one rfl) rfl rfl (.t (.t (.t (.t (.h (.n)))))) (.t (.h))) rfl rfl rfl rfl ?_
        refine DW.done (by kernel_rfl) ?_
        refine KW.arrShut (a := { a with pks := a.pks ++ [b] }) 1 2 (by rw [arow, List.length_append]; rfl) (by rw [pown, List.length_append, List.map_append]; rfl) (by decide) rfl ?_
        exact KW.endF .nil [1] rfl rfl rfl
      · refine DO.opBA [] rfl (ob_bs1 so22 zc9 (xs := [_]) rfl rfl rfl (by decide) rfl (fun _ => .c (.c (.c (.c (.n)))))) rfl rfl (fun _ => rfl) (fun _ => rfl) rfl (fun b16 => ?_)
        refine DW.all1 4 (by kernel_rfl) ?_
        refine DO.opV [] rfl (ov_loadR 1 ta22 rfl rfl rfl) rfl rfl rfl rfl rfl ?_
        refine DW.all1 8 (by kernel_rfl) ?_
        refine DO.opX [] rfl (ox_appR 4 so22 zo9 rfl so22 rfl rfl rfl rfl rfl (by omega) (by omega) (by omega) (fun _ => .t (.t (.h)))) rfl rfl (fun _ => rfl) (fun _ => rfl) rfl (fun a17 c17 => ?_)
        first | refine DW.tk 9 [] rfl (ov_nilP rfl) ?_ | refine DW.tk 9 [] rfl (ov_nilF rfl) ?_
        refine DW.tk 10 [] rfl (ov_fieldAddr fo33_4 rfl) ?_
        refine DW.all1 11 (by kernel_rfl) ?_
        refine DO.opU [] rfl (ou_storeW ta22 rfl rfl (.one rfl) rfl rfl (.t (.t (.t (.t (.h (.n)))))) (.t (.h))) rfl rfl rfl rfl ?_
        refine DW.done (by kernel_rfl) ?_
        refine KW.arrShut (a := { a with pks := a.pks ++ [b] }) 1 2 (by rw [arow, List.length_append]; rfl) (by rw [pown, List.length_append, List.map_append]; rfl) (by decide) rfl ?_
        exact KW.endF .nil [1] rfl rfl rfl
  · have hd : dlv a p.apid b = a := by rw [dlv, if_pos (Decidable.of_not_not h)]
    rw [hd]
    refine CW.skip ?_
    refine KW.arrShut (a := a) 1 2 rfl rfl (by decide) rfl ?_
    exact KW.endF .nil [1] rfl rfl rfl
theorem arrived_ok {o : Nat} {a : Arr} {b : List UInt8} (hb : b.length ≤ 1000000) (ha : a.pks.length ≤ 1000000) : Fn Try.prog 64 #[P1 o 0, S b] [arrA o a] (Ret fun _ Q => Q = [arrA o (dlv a (getK b).1.apid b)]) := by
  have hget := RGet9_ok (l := b) (by omega)
  generalize getK b = r at hget ⊢
  obtain ⟨p, e⟩ := r
  simp only at hget ⊢
  refine Fn.of (args := _) Try.func64 rfl Try.ntmps64 rfl ?_
  intro w0 g0
  refine KW.arrOpen 1 rfl (fun ad c => ?_)
  simp only [List.set_cons_succ, List.set_cons_zero, List.cons_append, List.nil_append]
  refine CW.seq ?_
  refine CW.region ?_
  refine LW.v (ov_move rfl) ?_
  refine LW.call [] (oc_fn cf84 rfl) rfl rfl rfl rfl (hget) ?_
  rintro _ _ ⟨rfl, rfl⟩
  simp only [putBack, List.append_nil]
  refine LW.v (ov_move rfl) ?_
  refine LW.v (ov_extract rfl rfl) ?_
  refine LW.v (ov_extract rfl rfl) ?_
  refine LW.opBA (ob_alloc zc110 (fun _ => .c (.c (.c (.n))))) rfl rfl (fun b4 => ?_)
  refine LW.opU (ou_storeW ta110 rfl rfl .agg rfl rfl (.h (.h (.h (.h (.h (.n)))))) (.t (.t (.t (.h))))) rfl ?_
  refine LW.v (ov_assign rfl) ?_
  refine LW.nil ?_
  refine KW.thenN ?_
  refine CW.seq ?_
  refine CW.region ?_
  refine LW.v (ov_fieldAddr fo110_1 rfl) ?_
  refine LW.v (ov_loadR 3 ta3 rfl rfl rfl) ?_
  refine LW.v (ov_neq rfl rfl) ?_
  refine LW.nil ?_
  refine KW.thenN ?_
  refine CW.condD (by rfl) (fun h => ?_) (fun h => ?_)
  · have hd : dlv a p.apid b = { a with pks := a.pks ++ [b] } := by rw [dlv, if_neg h]
    rw [hd]
    refine CW.region ?_
    refine LW.v (ov_move rfl) ?_
    refine LW.v (ov_move rfl) ?_
    refine LW.v (ov_nilP rfl) ?_
    refine LW.v (ov_fieldAddr fo33_4 rfl) ?_
    refine LW.v (ov_loadR 1 ta22 rfl rfl rfl) ?_
    refine LW.v (ov_move rfl) ?_
    refine LW.opBA (ob_bs1 so22 zc9 (xs := [_]) rfl rfl rfl (by decide) rfl (fun _ => .c (.c (.c (.c (.n)))))) rfl rfl (fun b20 => ?_)
    refine LW.opX (ox_appR 4 so22 zo9 rfl so22 rfl rfl rfl rfl rfl (by omega) (by omega) (by omega) (fun _ => .t (.t (.h)))) rfl rfl (fun a21 c21 => ?_)
    refine LW.v (ov_nilP rfl) ?_
    refine LW.v (ov_fieldAddr fo33_4 rfl) ?_
    refine LW.opU (ou_storeW ta22 rfl rfl (.one rfl) rfl rfl (.t (.t (.t (.t (.h (.n)))))) (.t (.h))) rfl ?_
    refine LW.nil ?_
    refine KW.arrShut (a := { a with pks := a.pks ++ [b] }) 1 2 (by rw [arow, List.length_append]; rfl) (by rw [pown, List.length_append, List.map_append]; rfl) (by decide) rfl ?_
    exact KW.endF .nil [1] rfl rfl rfl
  · have hd : dlv a p.apid b = a := by rw [dlv, if_pos (Decidable.of_not_not h)]
    rw [hd]
    refine CW.skip ?_
    refine KW.arrShut (a := a) 1 2 rfl rfl (by decide) rfl ?_
    exact KW.endF .nil [1] rfl rfl rfl
/-- what is left of the packets -/
def leftS (s : Snk) (a : Arr) (rest : List UInt8) (e : Int) : Snk × Arr := if e = 4 then ({ s with begun := true, part := rest }, a) else (s, { a with broken := a.broken + 1 })
theorem left_ok {b2 b3 d off o : Nat} {s : Snk} {a : Arr} {rest : List UInt8} {e : Int} {pre post : List Value} (hr : rest.length ≤ 1000000) (hb : 0 ≤ a.broken ∧ a.broken ≤ 1000000) : Fn Try.prog 59 (#[] ++ #[S rest, .int .i64 e] ++ #[P1 b2 0, P1 b3 0])
    [row b2 88 [P1 d off], row b3 91 [P1 o 0], rowF d 74 off (snkC s) pre post, arrA o a]
    (Ret fun _ Q => Q = [row b2 88 [P1 d off], row b3 91 [P1 o 0], rowF d 74 off (snkC (leftS s a rest e).1) pre post, arrA o (leftS s a rest e).2]) := by
  refine Fn.of (args := _) Try.func59 rfl Try.ntmps59 rfl ?_
  intro w0 g0
  refine KW.arrOpen 4 rfl (fun ad c => ?_)
  simp only [List.set_cons_succ, List.set_cons_zero, List.cons_append, List.nil_append]
  refine CW.seq ?_
  refine CW.region ?_
  refine LW.v (ov_move rfl) ?_
  refine LW.v (ov_eql rfl rfl) ?_
  refine LW.nil ?_
  refine KW.thenN ?_
  refine CW.condD (by rfl) (fun h => ?_) (fun h => ?_)
  · have hd : leftS s a rest e = ({ s with begun := true, part := rest }, a) := by rw [leftS, if_pos h]
    rw [hd]
    refine CW.draw [1] rfl mixed rfl (ls := #[false, false, false, false, false, false, false, false, false, false]) (by kernel_rfl) ?_
    refine DW.tk 0 [1] rfl (ov_loadR 0 ta88 rfl rfl rfl) ?_
    refine DW.tk 1 [1] rfl (ov_loadR 0 ta88 rfl rfl rfl) ?_
    refine DW.tk 2 [1] rfl (ov_move rfl) ?_
    refine DW.all1 3 (by kernel_rfl) ?_
    refine DO.call [1] [] rfl (oc_fn cf31 rfl) rfl rfl rfl rfl (Clone_ok (l := rest) (by omega)) (by rintro _ _ ⟨rfl, rfl⟩; exact ⟨rfl, rfl⟩) rfl ?_
    rintro _ _ ⟨rfl, rfl⟩
    simp only [putBack, List.append_nil]
    first | refine DW.tk 4 [1] rfl (ov_nilP rfl) ?_ | refine DW.tk 4 [1] rfl (ov_nilF rfl) ?_
    refine DW.tk 5 [1] rfl (ov_fieldAddr fo71_3 rfl) ?_
    refine DW.all1 6 (by kernel_rfl) ?_
    refine DO.opU [1] rfl (ou_storeF ta4 rfl rfl (.one rfl) rfl rfl (.t (.t (.t (.h (.n))))) (.t (.t (.t (.h))))) rfl rfl rfl rfl ?_
    first | refine DW.tk 7 [1] rfl (ov_nilP rfl) ?_ | refine DW.tk 7 [1] rfl (ov_nilF rfl) ?_
    refine DW.tk 8 [1] rfl (ov_fieldAddr fo71_4 rfl) ?_
    refine DW.all1 9 (by kernel_rfl) ?_
    refine DO.opU [1] rfl (ou_storeF ta9 rfl rfl (.one rfl) rfl rfl (.t (.t (.t (.t (.h (.n)))))) (.t (.t (.t (.h))))) rfl rfl rfl rfl ?_
    refine DW.done (by kernel_rfl) ?_
    refine KW.arrShut (a := a) 4 5 rfl rfl (by decide) rfl ?_
    exact KW.endF .nil [1, 2, 3, 4] rfl rfl rfl
  · have hd : leftS s a rest e = (s, { a with broken := a.broken + 1 }) := by rw [leftS, if_neg h]
    rw [hd]
    refine CW.region ?_
    refine LW.v (ov_loadR 2 ta91 rfl rfl rfl) ?_
    refine LW.v (ov_nilP rfl) ?_
    refine LW.v (ov_fieldAddr fo33_5 rfl) ?_
    refine LW.v (ov_loadR 4 ta3 rfl rfl rfl) ?_
    first | refine LW.v (ov_add rfl rfl (by omega)) ?_ | refine LW.v (ov_addW rfl rfl) ?_
    refine LW.v (ov_nilP rfl) ?_
    refine LW.v (ov_fieldAddr fo33_5 rfl) ?_
    refine LW.opU (ou_storeW ta3 rfl rfl (.one rfl) rfl rfl (.t (.t (.t (.t (.t (.h (.n))))))) (.t (.t (.t (.t (.h)))))) rfl ?_
    refine LW.nil ?_
    refine KW.arrShut (a := { a with broken := a.broken + 1 }) 4 5 rfl rfl (by decide) rfl ?_
    exact KW.endF .nil [1, 2, 3, 4] rfl rfl rfl
end Sx
end Go.Proofs.Ytdgphamhpjnmpaa

/- A demux: packets out of the data of a frame. -/
namespace Go.Proofs.Ytdgphamhpjnmpaa
namespace Sx

def goP : Nat → List UInt8 → Arr → Arr × Option (List UInt8 × Int)
  | 0, _, a => (a, none)
  | n + 1, b, a => if b = [] then (a, none) else if (takeK b).2.2 ≠ 0 then (a, some (b, (takeK b).2.2)) else goP n (b.drop (takeK b).2.1) (dlv a (takeK b).1.apid (b.take (takeK b).2.1))
def afterP (s : Snk) (r : Arr × Option (List UInt8 × Int)) : Snk × Arr := match r.2 with
  | none => (s, r.1)
  | some (rest, e) => leftS s r.1 rest e
theorem takeK_len {b : List UInt8} (h : (takeK b).2.2 = 0) : 7 ≤ (takeK b).2.1 ∧ (takeK b).2.1 ≤ b.length := by
  unfold takeK at h ⊢
  split at h
  · cases h
  · rename_i h1
    split at h
    · cases h
    · rename_i h2
      simp only at h ⊢
      split at h
      · cases h
      · rename_i h3
        rw [if_neg h1, if_neg h2, if_neg h3]
        simp only; omega
theorem dlv_len (a : Arr) (x : Int) (b : List UInt8) : (dlv a x b).pks.length ≤ a.pks.length + 1 := by unfold dlv; split <;> simp
theorem dlv_broken (a : Arr) (x : Int) (b : List UInt8) : (dlv a x b).broken = a.broken := by unfold dlv; split <;> rfl
theorem packets_ok {data : List UInt8} {F : Value} (HF : F.oneCell' = true) : Fn Try.prog 60 #[S data, F] [] (Ret fun v Q => ∃ b1 b2, v = .func (.func 92) #[] #[P1 b1 0, P1 b2 0] ∧ Q = [row b1 9 [S data], row b2 132 [F]]) := by
  refine Fn.of (args := _) Try.func60 rfl Try.ntmps60 rfl ?_
  intro w0 g0
  refine CW.seq ?_
  refine CW.region ?_
  refine LW.opBA (ob_box rfl (.one rfl) (fun _ => .c (.n))) rfl rfl (fun b2 => ?_)
  refine LW.opBA (ob_box rfl (.one HF) (fun _ => (.c (.c (.n))))) rfl rfl (fun b3 => ?_)
  refine LW.v (ov_assign rfl) ?_
  refine LW.nil ?_
  refine KW.thenN ?_
  refine CW.seq ?_
  refine CW.region ?_
  refine LW.v (ov_mkFunc rfl rfl) ?_
  refine LW.v (ov_assign rfl) ?_
  refine LW.nil ?_
  refine KW.thenN ?_
  refine CW.ret ?_
  exact KW.retF (.cons (.tmp rfl) (.nil)) [1, 2] rfl rfl (⟨_, _, rfl, rfl⟩)
theorem packets1_ok {l b1 b2 b3 b4 d off o : Nat} {X : HP} {s : Snk} {a0 : Arr} {data : List UInt8} {pre post : List Value} (hdl : data.length ≤ 100000) (hap : a0.pks.length ≤ 100000) (hab : 0 ≤ a0.broken ∧ a0.broken ≤ 1000000)
    (hY : ∀ (a : Arr) (p : Pk) (b : List UInt8), b.length ≤ 100000 → a.pks.length ≤ 300000 → Yd Try.prog l #[pkv p, S b] [X, arrA o a, row b4 91 [P1 o 0]] (fun r Q => r = true ∧ Q = [X, arrA o (dlv a p.apid b), row b4 91 [P1 o 0]])) :
    Fn Try.prog 92 #[.func (.yield l) #[] #[], P1 b1 0, P1 b2 0]
      [X, arrA o a0, row b4 91 [P1 o 0], row b3 88 [P1 d off], rowF d 74 off (snkC s) pre post, row b1 9 [S data], row b2 132 [.func (.func 59) #[] #[P1 b3 0, P1 b4 0]]]
      (Ret fun _ Q => ∃ data', Q = [X, arrA o (afterP s (goP data.length data a0)).2, row b4 91 [P1 o 0], row b3 88 [P1 d off], rowF d 74 off (snkC (afterP s (goP data.length data a0)).1) pre post, row b1 9 [S data'], row b2 132 [.func (.func 59) #[] #[P1 b3 0, P1 b4 0]]]) := by
  generalize hG : goP data.length data a0 = G
  refine Fn.of (args := _) Try.func92 rfl Try.ntmps92 rfl ?_
  intro w0 g0
  refine CW.block ?_
  refine CW.loopW (fun r env As => ∃ (b : List UInt8) (a : Arr), b.length ≤ r ∧ r ≤ 100000 ∧ a.pks.length + b.length ≤ 200000 ∧ a.broken = a0.broken ∧ goP r b a = G ∧ env = [(0, .func (.yield l) #[] #[]), (1, P1 b1 0), (2, P1 b2 0)] ∧
    As = [ex g0, X, arrA o a, row b4 91 [P1 o 0], row b3 88 [P1 d off], rowF d 74 off (snkC s) pre post, row b1 9 [S b], row b2 132 [.func (.func 59) #[] #[P1 b3 0, P1 b4 0]]]) data.length [0, 1, 2, 3, 4, 5, 6, 7] ⟨data, a0, Nat.le_refl _, hdl, by omega, rfl, hG, rfl, rfl⟩ ⟨rfl, rfl, rfl, trivial⟩ rfl rfl ?_
  rintro r _ _ ⟨b, a, hbr, hr, hal, hbk, hGr, rfl, rfl⟩
  clear hG
  refine CW.seq ?_
  refine CW.seq ?_
  refine CW.region ?_
  refine LW.v (ov_loadR 6 ta9 rfl rfl rfl) ?_
  refine LW.v (ov_strNeq rfl rfl) ?_
  refine LW.nil ?_
  refine KW.thenN ?_
  refine CW.condD (by rfl) (fun h => ?_) (fun h => ?_)
  · have hpos : 0 < b.length := List.length_pos_iff.2 h
    obtain ⟨n, rfl⟩ : ∃ n, r = n + 1 := ⟨r - 1, by omega⟩
    rw [goP, if_neg h] at hGr
    have htk := @takeK_len b
    have hcall := Take_ok (l := b) (by omega)
    generalize takeK b = t at hGr htk hcall
    obtain ⟨p, k, e⟩ := t
    simp only at hGr htk hcall
    refine CW.skip ?_
    refine KW.thenN ?_
    refine CW.block ?_
    refine CW.seq ?_
    refine CW.region ?_
    refine LW.v (ov_loadR 6 ta9 rfl rfl rfl) ?_
    refine LW.call [] (oc_fn cf57 rfl) rfl rfl rfl rfl (hcall) ?_
    rintro _ _ ⟨rfl, rfl⟩
    simp only [putBack, List.append_nil]
    refine LW.v (ov_move rfl) ?_
    refine LW.v (ov_extract rfl rfl) ?_
    refine LW.v (ov_extract rfl rfl) ?_
    refine LW.v (ov_extract rfl rfl) ?_
    refine LW.opBA (ob_alloc zc110 (fun _ => .c (.c (.c (.c (.c (.c (.c (.c (.n)))))))))) rfl rfl (fun b4 => ?_)
    refine LW.opU (ou_storeW ta110 rfl rfl .agg rfl rfl (.h (.h (.h (.h (.h (.n)))))) (.t (.t (.t (.t (.t (.t (.t (.t (.h)))))))))) rfl ?_
    refine LW.v (ov_assign rfl) ?_
    refine LW.v (ov_assign rfl) ?_
    refine LW.nil ?_
    refine KW.thenN ?_
    refine CW.seq ?_
    refine CW.seq ?_
    refine CW.region ?_
    refine LW.v (ov_move rfl) ?_
    refine LW.v (ov_neq rfl rfl) ?_
    refine LW.nil ?_
    refine KW.thenN ?_
    refine CW.condD (by rfl) (fun h2 => ?_) (fun h2 => ?_)
    · rw [if_pos h2] at hGr
      subst hGr
      refine CW.seq ?_
      refine CW.region ?_
      refine LW.v (ov_loadR 7 ta132 rfl rfl rfl) ?_
      refine LW.v (ov_loadR 6 ta9 rfl rfl rfl) ?_
      refine LW.v (ov_move rfl) ?_
      refine LW.call [4, 3, 5, 2] (oc_clo cf59 rfl rfl) rfl rfl rfl rfl (left_ok (e := e) (by omega) (by omega)) ?_
      rintro _ _ rfl
      simp only [putBack, List.set_cons_succ, List.set_cons_zero, List.append_nil]
      refine LW.nil ?_
      refine KW.thenN ?_
      refine CW.ret ?_
      refine KW.thenR ?_
      refine KW.blockR ?_
      refine KW.thenR ?_
      refine KW.blockR ?_
      exact KW.retF (.nil) [1, 2, 3, 4, 5, 6, 7] rfl rfl (⟨_, rfl⟩)
    · have he : e = 0 := Decidable.of_not_not h2
      obtain ⟨hk1, hk2⟩ := htk he
      rw [if_neg h2] at hGr
      refine CW.skip ?_
      refine KW.thenN ?_
      refine CW.seq ?_
      refine CW.seq ?_
      refine CW.drawY mixed rfl (ls := #[false, false, false, false, false, false, false]) (by kernel_rfl) ?_
      have hdl2 := dlv_len a p.apid (b.take k)
      have hkl : (b.drop k).length = b.length - k := List.length_drop
      refine YW.take 0 rfl (by kernel_rfl) (by kernel_rfl) (by kernel_rfl) (fun _ _ _ h => h) (ov_move rfl) (fun _ _ => rfl) rfl rfl rfl ?_
      refine YW.take 3 rfl (by kernel_rfl) (by kernel_rfl) (by kernel_rfl) (fun _ _ _ h => h) (ov_move rfl) (fun _ _ => rfl) rfl rfl rfl ?_
      refine YW.all2 1 2 (by kernel_rfl) ?_ ?_
      · refine YO.opV rfl (ov_loadAR 8 ta110 rfl rfl (.h (.h (.h (.h (.h (.n))))))) rfl rfl rfl ?_
        refine YW.all1 2 (by kernel_rfl) ?_
        refine YO.opV rfl (ov_loadR 6 ta9 rfl rfl rfl) rfl rfl rfl ?_
        refine YW.take 4 rfl (by kernel_rfl) (by kernel_rfl) (by kernel_rfl) (fun _ _ _ h => h) (OpV.eq (ov_ssHi un9 rfl rfl (by omega)) (congrArg S (show _ = b.take k by rw [Int.toNat_natCast]))) (fun _ _ => rfl) rfl rfl rfl ?_
        refine YW.all1 5 (by kernel_rfl) ?_
        refine YO.yield [1, 2, 3] rfl rfl rfl rfl rfl rfl rfl (hY a p (b.take k) (by rw [List.length_take]; omega) (by omega)) rfl ?_
        rintro _ _ ⟨rfl, rfl⟩
        simp only [putBack, List.set_cons_succ, List.set_cons_zero, List.append_nil]
        refine YW.take 6 rfl (by kernel_rfl) (by kernel_rfl) (by kernel_rfl) (fun _ _ _ h => h) (ov_not rfl) (fun _ _ => rfl) rfl rfl rfl ?_
        refine YW.done (by kernel_rfl) ?_
        refine KW.thenN ?_
        refine CW.condF rfl rfl ?_
        refine CW.skip ?_
        refine KW.thenN ?_
        refine CW.region ?_
        refine LW.v (ov_loadR 6 ta9 rfl rfl rfl) ?_
        refine LW.v (ov_move rfl) ?_
        refine LW.v (OpV.eq (ov_ssLo un9 rfl rfl (by omega)) (congrArg S (show _ = b.drop k by rw [Int.toNat_natCast]))) ?_
        refine LW.opU (ou_storeW ta9 rfl rfl (.one rfl) rfl rfl (.h (.n)) (.t (.t (.t (.t (.t (.t (.h)))))))) rfl ?_
        refine LW.nil ?_
        refine KW.blockN ?_
        exact KW.again n [0, 1, 2, 3, 4, 5, 6, 7] (by omega) ⟨b.drop k, dlv a p.apid (b.take k), by omega, by omega, by omega, by rw [dlv_broken]; exact hbk, hGr, rfl, rfl⟩ ⟨rfl, rfl, rfl, trivial⟩ rfl rfl
      · refine YO.opV rfl (ov_loadR 6 ta9 rfl rfl rfl) rfl rfl rfl ?_
        refine YW.take 4 rfl (by kernel_rfl) (by kernel_rfl) (by kernel_rfl) (fun _ _ _ h => h) (OpV.eq (ov_ssHi un9 rfl rfl (by omega)) (congrArg S (show _ = b.take k by rw [Int.toNat_natCast]))) (fun _ _ => rfl) rfl rfl rfl ?_
        refine YW.all1 1 (by kernel_rfl) ?_
        refine YO.opV rfl (ov_loadAR 8 ta110 rfl rfl (.h (.h (.h (.h (.h (.n))))))) rfl rfl rfl ?_
        refine YW.all1 5 (by kernel_rfl) ?_
        refine YO.yield [1, 2, 3] rfl rfl rfl rfl rfl rfl rfl (hY a p (b.take k) (by rw [List.length_take]; omega) (by omega)) rfl ?_
        rintro _ _ ⟨rfl, rfl⟩
        simp only [putBack, List.set_cons_succ, List.set_cons_zero, List.append_nil]
        refine YW.take 6 rfl (by kernel_rfl) (by kernel_rfl) (by kernel_rfl) (fun _ _ _ h => h) (ov_not rfl) (fun _ _ => rfl) rfl rfl rfl ?_
        refine YW.done (by kernel_rfl) ?_
        refine KW.thenN ?_
        refine CW.condF rfl rfl ?_
        refine CW.skip ?_
        refine KW.thenN ?_
        refine CW.region ?_
        refine LW.v (ov_loadR 6 ta9 rfl rfl rfl) ?_
        refine LW.v (ov_move rfl) ?_
        refine LW.v (OpV.eq (ov_ssLo un9 rfl rfl (by omega)) (congrArg S (show _ = b.drop k by rw [Int.toNat_natCast]))) ?_
        refine LW.opU (ou_storeW ta9 rfl rfl (.one rfl) rfl rfl (.h (.n)) (.t (.t (.t (.t (.t (.t (.h)))))))) rfl ?_
        refine LW.nil ?_
        refine KW.blockN ?_
        exact KW.again n [0, 1, 2, 3, 4, 5, 6, 7] (by omega) ⟨b.drop k, dlv a p.apid (b.take k), by omega, by omega, by omega, by rw [dlv_broken]; exact hbk, hGr, rfl, rfl⟩ ⟨rfl, rfl, rfl, trivial⟩ rfl rfl
  · have hb0 : b = [] := Decidable.of_not_not h
    have hG0 : G = (a, none) := by
      rw [← hGr, hb0]; cases r <;> rfl
    subst hG0
    refine CW.exit ?_
    refine KW.thenX ?_
    refine KW.thenX ?_
    refine KW.hit ?_
    exact KW.endF (.nil) [1, 2, 3, 4, 5, 6, 7] rfl rfl (⟨_, rfl⟩)
end Sx
end Go.Proofs.Ytdgphamhpjnmpaa

/- A demux: the data of a frame. -/
namespace Go.Proofs.Ytdgphamhpjnmpaa
namespace Sx

/-- the part that has begun -/
def partP (s : Snk) (a : Arr) (f : Tf) : Snk × Arr :=
  if s.begun = true then
    let part := s.part ++ f.data.take (min f.first f.data.length).toNat
    if (takeK part).2.2 = 0 ∧ (takeK part).2.1 = part.length then ({ s with begun := false, part := part }, dlv a (takeK part).1.apid part)
    else if (takeK part).2.2 ≠ 4 ∨ f.first ≠ 2047 then ({ s with begun := false, part := part }, { a with broken := a.broken + 1 })
    else ({ s with part := part }, a)
  else (s, a)
def takeF (s : Snk) (a : Arr) (f : Tf) : Snk × Arr :=
  let r := partP s a f
  if f.first = 2047 then r else
  afterP { r.1 with part := [] } (goP (f.data.drop (min f.first f.data.length).toNat).length (f.data.drop (min f.first f.data.length).toNat) r.2)
theorem take_ok {d off o : Nat} {s : Snk} {a : Arr} {f : Tf} {pre post : List Value} (hf : 0 ≤ f.first ∧ f.first ≤ 2047) (hdl : f.data.length ≤ 1000) (hpt : s.begun = true → s.part.length ≤ 90000) (hap : a.pks.length ≤ 1000) (hab : 0 ≤ a.broken ∧ a.broken ≤ 1000) :
    Fn Try.prog 32 #[P1 d off, P1 o 0, tfv f] [rowF d 74 off (snkC s) pre post, arrA o a]
      (Ret fun _ Q => Q = [rowF d 74 off (snkC (takeF s a f).1) pre post, arrA o (takeF s a f).2]) := by
  obtain ⟨k, hk⟩ : ∃ k : Nat, min f.first f.data.length = (k : Int) := ⟨(min f.first f.data.length).toNat, by omega⟩
  have hkn : (min f.first f.data.length).toNat = k := by omega
  have hkl : k ≤ f.data.length := by omega
  have htf : takeF s a f = if f.first = 2047 then partP s a f else afterP { (partP s a f).1 with part := [] } (goP (f.data.drop k).length (f.data.drop k) (partP s a f).2) := by rw [takeF, hkn]
  rw [htf]
  refine Fn.ofP (args := _) Try.func32 rfl Try.ntmps32 rfl ?_
  intro w0 g0
  refine CW.seq ?_
  refine CW.region ?_
  refine LW.opBA (ob_box rfl (.one rfl) (fun _ => .c (.c (.c (.n))))) rfl rfl (fun b3 => ?_)
  refine LW.opBA (ob_box rfl (.one rfl) (fun _ => .c (.c (.c (.c (.n)))))) rfl rfl (fun b4 => ?_)
  refine LW.opBA (ob_box rfl .agg (fun _ => .c (.c (.c (.c (.c (.n))))))) rfl rfl (fun b5 => ?_)
  refine LW.nil ?_
  refine KW.thenN ?_
  refine CW.seq ?_
  refine CW.region ?_
  refine LW.v (ov_fieldAddr fo85_4 rfl) ?_
  refine LW.v (ov_loadR 5 ta3 rfl rfl rfl) ?_
  refine LW.v (ov_fieldAddr fo85_5 rfl) ?_
  refine LW.v (ov_loadR 5 ta9 rfl rfl rfl) ?_
  refine LW.v (ov_lenS un9 rfl) ?_
  refine LW.v (OpV.eq (ov_min rfl rfl) (congrArg (Value.int .i64) hk)) ?_
  refine LW.v (ov_assign rfl) ?_
  refine LW.nil ?_
  refine KW.thenN ?_
  refine CW.cut (fun env As => env = [(3, P1 b3 0), (4, P1 b4 0), (5, P1 b5 0), (6, .int .i64 k)] ∧ As = [ex g0, rowF d 74 off (snkC (partP s a f).1) pre post, arrA o (partP s a f).2, row b3 88 [P1 d off], row b4 91 [P1 o 0], row b5 85 [.int .i64 f.craft, .int .i64 f.chan, .int .i64 f.master, .int .i64 f.count, .int .i64 f.first, S f.data, .int .u32 f.word]]) (fun Mm hMm => ?_) ?_
  · obtain ⟨known, frame, count, begun, part⟩ := s
    simp only at hpt
    cases begun with
    | false =>
      have hp : partP ⟨known, frame, count, false, part⟩ a f = (⟨known, frame, count, false, part⟩, a) := by rw [partP, if_neg (by simp)]
      rw [hp] at hMm
      refine CW.seq ?_
      refine CW.region ?_
      refine LW.v (ov_loadR 3 ta88 rfl rfl rfl) ?_
      refine LW.v (ov_nilP rfl) ?_
      refine LW.v (ov_fieldAddr fo71_3 rfl) ?_
      refine LW.v (ov_loadF 1 ta4 rfl rfl rfl) ?_
      refine LW.nil ?_
      refine KW.thenN ?_
      refine CW.condF rfl rfl ?_
      refine CW.skip ?_
      refine KW.thenN ?_
      exact KW.meet [0, 1, 2, 3, 4, 5] hMm ⟨rfl, rfl⟩ ⟨rfl, rfl, rfl, rfl, trivial⟩ rfl rfl
    | true =>
      have hpl := hpt rfl
      obtain ⟨pt, hpt2⟩ : ∃ pt, pt = part ++ f.data.take k := ⟨_, rfl⟩
      have hptl : pt.length ≤ 91000 := by rw [hpt2, List.length_append, List.length_take]; omega
      have hp : partP ⟨known, frame, count, true, part⟩ a f = (if (takeK pt).2.2 = 0 ∧ (takeK pt).2.1 = pt.length then (⟨known, frame, count, false, pt⟩, dlv a (takeK pt).1.apid pt)
        else if (takeK pt).2.2 ≠ 4 ∨ f.first ≠ 2047 then (⟨known, frame, count, false, pt⟩, { a with broken := a.broken + 1 }) else (⟨known, frame, count, true, pt⟩, a)) := by rw [partP, if_pos rfl, hkn]; simp only; rw [← hpt2]
      have hcall := Take_ok (l := pt) (by omega)
      generalize takeK pt = t at hp hcall
      obtain ⟨p, n, e⟩ := t
      simp only at hp hcall
      refine CW.seq ?_
      refine CW.region ?_
      refine LW.v (ov_loadR 3 ta88 rfl rfl rfl) ?_
      refine LW.v (ov_nilP rfl) ?_
      refine LW.v (ov_fieldAddr fo71_3 rfl) ?_
      refine LW.v (ov_loadF 1 ta4 rfl rfl rfl) ?_
      refine LW.nil ?_
      refine KW.thenN ?_
      refine CW.condT rfl rfl ?_
      refine CW.seq ?_
      refine CW.draw [3,5] rfl mixed rfl (ls := #[false, false, false, false, false, false, false, false, false, false, false, false]) (by kernel_rfl) ?_
      refine DW.tk 0 [3,5] rfl (ov_loadR 0 ta88 rfl rfl rfl) ?_
      first | refine DW.tk 1 [3,5] rfl (ov_nilP rfl) ?_ | refine DW.tk 1 [3,5] rfl (ov_nilF rfl) ?_
      refine DW.tk 2 [3,5] rfl (ov_fieldAddr fo71_4 rfl) ?_
      refine DW.tk 4 [3,5] rfl (ov_fieldAddr fo85_5 rfl) ?_
      refine DW.tk 5 [3,5] rfl (ov_loadR 1 ta9 rfl rfl rfl) ?_
      refine DW.tk 6 [3,5] rfl (ov_move rfl) ?_
      refine DW.tk 7 [3,5] rfl (OpV.eq (ov_ssHi un9 rfl rfl (by omega)) (congrArg S (show _ = f.data.take k by rw [Int.toNat_natCast]))) ?_
      refine DW.all1 3 (by kernel_rfl) ?_
      refine DO.opV [3,5] rfl (ov_loadF 1 ta9 rfl rfl rfl) rfl rfl rfl rfl rfl ?_
      refine DW.tk 8 [3,5] rfl (OpV.eq (ov_strAdd rfl rfl (by simp only [List.length_take]; omega)) (congrArg S hpt2.symm)) ?_
      first | refine DW.tk 9 [3,5] rfl (ov_nilP rfl) ?_ | refine DW.tk 9 [3,5] rfl (ov_nilF rfl) ?_
      refine DW.tk 10 [3,5] rfl (ov_fieldAddr fo71_4 rfl) ?_
      refine DW.all1 11 (by kernel_rfl) ?_
      refine DO.opU [3,5] rfl (ou_storeF ta9 rfl rfl (.one rfl) rfl rfl (.t (.t (.t (.t (.h (.n)))))) (.t (.h))) rfl rfl rfl rfl ?_
      refine DW.done (by kernel_rfl) ?_
      refine KW.thenN ?_
      refine CW.seq ?_
      refine CW.region ?_
      refine LW.v (ov_loadR 3 ta88 rfl rfl rfl) ?_
      refine LW.v (ov_nilP rfl) ?_
      refine LW.v (ov_fieldAddr fo71_4 rfl) ?_
      refine LW.v (ov_loadF 1 ta9 rfl rfl rfl) ?_
      refine LW.call [] (oc_fn cf57 rfl) rfl rfl rfl rfl (hcall) ?_
      rintro _ _ ⟨rfl, rfl⟩
      simp only [putBack, List.append_nil]
      refine LW.v (ov_move rfl) ?_
      refine LW.v (ov_extract rfl rfl) ?_
      refine LW.v (ov_extract rfl rfl) ?_
      refine LW.v (ov_extract rfl rfl) ?_
      refine LW.opBA (ob_alloc zc110 (fun _ => .c (.c (.c (.c (.c (.c (.n)))))))) rfl rfl (fun b7 => ?_)
      refine LW.opU (ou_storeW ta110 rfl rfl .agg rfl rfl (.h (.h (.h (.h (.h (.n)))))) (.t (.t (.t (.t (.t (.t (.h)))))))) rfl ?_
      refine LW.v (ov_assign rfl) ?_
      refine LW.v (ov_assign rfl) ?_
      refine LW.nil ?_
      refine KW.thenN ?_
      refine CW.block ?_
      by_cases he : e = 0
      · by_cases hn : n = pt.length
        · rw [if_pos ⟨he, hn⟩] at hp
          rw [hp] at hMm
          refine CW.seq ?_
          refine CW.region ?_
          refine LW.v (ov_move rfl) ?_
          refine LW.v (OpV.eq (ov_eql rfl rfl) (congrArg Value.bool (decide_eq_true (by first | omega | assumption)))) ?_
          refine LW.v (ov_move rfl) ?_
          refine LW.v (ov_move rfl) ?_
          refine LW.v (ov_loadR 3 ta88 rfl rfl rfl) ?_
          refine LW.v (ov_nilP rfl) ?_
          refine LW.v (ov_fieldAddr fo71_4 rfl) ?_
          refine LW.v (ov_loadF 1 ta9 rfl rfl rfl) ?_
          refine LW.v (ov_lenS un9 rfl) ?_
          refine LW.v (OpV.eq (ov_eql rfl rfl) (congrArg Value.bool (decide_eq_true (by first | omega | assumption)))) ?_
          first | refine LW.v (ov_pickT rfl rfl) ?_ | refine LW.v (ov_pickF rfl rfl) ?_ | refine LW.v (ov_pick rfl rfl rfl) ?_
          refine LW.v (ov_assign rfl) ?_
          refine LW.nil ?_
          refine KW.thenN ?_
          refine CW.condT rfl rfl ?_
          refine CW.seq ?_
          refine CW.draw [1,3,4,6] rfl mixed rfl (ls := #[false, false, false, false, false, false, false]) (by kernel_rfl) ?_
          refine DW.tk 0 [1,3,4,6] rfl (ov_loadR 2 ta91 rfl rfl rfl) ?_
          refine DW.tk 1 [1,3,4,6] rfl (ov_loadAR 3 ta110 rfl rfl (.h (.h (.h (.h (.h (.n))))))) ?_
          refine DW.tk 2 [1,3,4,6] rfl (ov_loadR 1 ta88 rfl rfl rfl) ?_
          first | refine DW.tk 3 [1,3,4,6] rfl (ov_nilP rfl) ?_ | refine DW.tk 3 [1,3,4,6] rfl (ov_nilF rfl) ?_
          refine DW.tk 4 [1,3,4,6] rfl (ov_fieldAddr fo71_4 rfl) ?_
          refine DW.tk 5 [1,3,4,6] rfl (ov_loadF 0 ta9 rfl rfl rfl) ?_
          refine DW.all1 6 (by kernel_rfl) ?_
          refine DO.call [1,3,4,6] [2] rfl (oc_fn cf58 rfl) rfl rfl rfl rfl (deliver_ok (by omega) (by omega)) (by rintro _ _ rfl; exact ⟨rfl, rfl⟩) rfl ?_
          rintro _ _ rfl
          simp only [putBack, List.set_cons_succ, List.set_cons_zero, List.append_nil]
          refine DW.done (by kernel_rfl) ?_
          refine KW.thenN ?_
          refine CW.region ?_
          refine LW.v (ov_loadR 3 ta88 rfl rfl rfl) ?_
          refine LW.v (ov_nilP rfl) ?_
          refine LW.v (ov_fieldAddr fo71_3 rfl) ?_
          refine LW.opU (ou_storeF ta4 rfl rfl (.one rfl) rfl rfl (.t (.t (.t (.h (.n))))) (.t (.h))) rfl ?_
          refine LW.nil ?_
          refine KW.blockN ?_
          refine KW.thenN ?_
          exact KW.meet [0, 1, 2, 3, 4, 5] hMm ⟨rfl, rfl⟩ ⟨rfl, rfl, rfl, rfl, trivial⟩ rfl rfl
        · rw [if_neg (fun q => hn q.2), if_pos (.inl (by omega))] at hp
          rw [hp] at hMm
          refine CW.seq ?_
          refine CW.region ?_
          refine LW.v (ov_move rfl) ?_
          refine LW.v (OpV.eq (ov_eql rfl rfl) (congrArg Value.bool (decide_eq_true (by first | omega | assumption)))) ?_
          refine LW.v (ov_move rfl) ?_
          refine LW.v (ov_move rfl) ?_
          refine LW.v (ov_loadR 3 ta88 rfl rfl rfl) ?_
          refine LW.v (ov_nilP rfl) ?_
          refine LW.v (ov_fieldAddr fo71_4 rfl) ?_
          refine LW.v (ov_loadF 1 ta9 rfl rfl rfl) ?_
          refine LW.v (ov_lenS un9 rfl) ?_
          refine LW.v (OpV.eq (ov_eql rfl rfl) (congrArg Value.bool (decide_eq_false (by first | omega | assumption)))) ?_
          first | refine LW.v (ov_pickT rfl rfl) ?_ | refine LW.v (ov_pickF rfl rfl) ?_ | refine LW.v (ov_pick rfl rfl rfl) ?_
          refine LW.v (ov_assign rfl) ?_
          refine LW.nil ?_
          refine KW.thenN ?_
          refine CW.condF rfl rfl ?_
          refine CW.seq ?_
          refine CW.region ?_
          refine LW.v (ov_move rfl) ?_
          refine LW.v (OpV.eq (ov_neq rfl rfl) (congrArg Value.bool (decide_eq_true (by first | omega | assumption)))) ?_
          refine LW.v (ov_move rfl) ?_
          refine LW.skip rfl rfl ?_
          refine LW.skip rfl rfl ?_
          refine LW.skip rfl rfl ?_
          first | refine LW.v (ov_pickT rfl rfl) ?_ | refine LW.v (ov_pickF rfl rfl) ?_ | refine LW.v (ov_pick rfl rfl rfl) ?_
          refine LW.v (ov_assign rfl) ?_
          refine LW.nil ?_
          refine KW.thenN ?_
          refine CW.condT rfl rfl ?_
          refine CW.seq ?_
          refine CW.region ?_
          refine LW.v (ov_loadR 3 ta88 rfl rfl rfl) ?_
          refine LW.v (ov_nilP rfl) ?_
          refine LW.v (ov_fieldAddr fo71_3 rfl) ?_
          refine LW.opU (ou_storeF ta4 rfl rfl (.one rfl) rfl rfl (.t (.t (.t (.h (.n))))) (.t (.h))) rfl ?_
          refine LW.nil ?_
          refine KW.thenN ?_
          refine KW.arrOpen 2 rfl (fun ad c => ?_)
          simp only [List.set_cons_succ, List.set_cons_zero, List.cons_append, List.nil_append]
          refine CW.region ?_
          refine LW.v (ov_loadR 4 ta91 rfl rfl rfl) ?_
          refine LW.v (ov_nilP rfl) ?_
          refine LW.v (ov_fieldAddr fo33_5 rfl) ?_
          refine LW.v (ov_loadR 2 ta3 rfl rfl rfl) ?_
          first | refine LW.v (ov_add rfl rfl (by omega)) ?_ | refine LW.v (ov_addW rfl rfl) ?_
          refine LW.v (ov_nilP rfl) ?_
          refine LW.v (ov_fieldAddr fo33_5 rfl) ?_
          refine LW.opU (ou_storeW ta3 rfl rfl (.one rfl) rfl rfl (.t (.t (.t (.t (.t (.h (.n))))))) (.t (.t (.h)))) rfl ?_
          refine LW.nil ?_
          refine KW.blockN ?_
          refine KW.thenN ?_
          refine KW.arrShut (a := { a with broken := a.broken + 1 }) 2 7 rfl rfl (by decide) rfl ?_
          exact KW.meet [0, 1, 2, 3, 4, 5] hMm ⟨rfl, rfl⟩ ⟨rfl, rfl, rfl, rfl, trivial⟩ rfl rfl
      · rw [if_neg (fun q => he q.1)] at hp
        by_cases h4 : e = 4
        · by_cases hw : f.first = 2047
          · rw [if_neg (by omega)] at hp
            rw [hp] at hMm
            refine CW.seq ?_
            refine CW.region ?_
            refine LW.v (ov_move rfl) ?_
            refine LW.v (OpV.eq (ov_eql rfl rfl) (congrArg Value.bool (decide_eq_false (by first | omega | assumption)))) ?_
            refine LW.v (ov_move rfl) ?_
            refine LW.skip rfl rfl ?_
            refine LW.skip rfl rfl ?_
            refine LW.skip rfl rfl ?_
            refine LW.skip rfl rfl ?_
            refine LW.skip rfl rfl ?_
            refine LW.skip rfl rfl ?_
            refine LW.skip rfl rfl ?_
            first | refine LW.v (ov_pickT rfl rfl) ?_ | refine LW.v (ov_pickF rfl rfl) ?_ | refine LW.v (ov_pick rfl rfl rfl) ?_
            refine LW.v (ov_assign rfl) ?_
            refine LW.nil ?_
            refine KW.thenN ?_
            refine CW.condF rfl rfl ?_
            refine CW.seq ?_
            refine CW.region ?_
            refine LW.v (ov_move rfl) ?_
            refine LW.v (OpV.eq (ov_neq rfl rfl) (congrArg Value.bool (decide_eq_false (by first | omega | assumption)))) ?_
            refine LW.v (ov_move rfl) ?_
            refine LW.v (ov_fieldAddr fo85_4 rfl) ?_
            refine LW.v (ov_loadR 5 ta3 rfl rfl rfl) ?_
            refine LW.v (OpV.eq (ov_neq rfl rfl) (congrArg Value.bool (decide_eq_false (by first | omega | assumption)))) ?_
            first | refine LW.v (ov_pickT rfl rfl) ?_ | refine LW.v (ov_pickF rfl rfl) ?_ | refine LW.v (ov_pick rfl rfl rfl) ?_
            refine LW.v (ov_assign rfl) ?_
            refine LW.nil ?_
            refine KW.thenN ?_
            refine CW.condF rfl rfl ?_
            refine CW.skip ?_
            refine KW.blockN ?_
            refine KW.thenN ?_
            exact KW.meet [0, 1, 2, 3, 4, 5] hMm ⟨rfl, rfl⟩ ⟨rfl, rfl, rfl, rfl, trivial⟩ rfl rfl
          · rw [if_pos (.inr hw)] at hp
            rw [hp] at hMm
            refine CW.seq ?_
            refine CW.region ?_
            refine LW.v (ov_move rfl) ?_
            refine LW.v (OpV.eq (ov_eql rfl rfl) (congrArg Value.bool (decide_eq_false (by first | omega | assumption)))) ?_
            refine LW.v (ov_move rfl) ?_
            refine LW.skip rfl rfl ?_
            refine LW.skip rfl rfl ?_
            refine LW.skip rfl rfl ?_
            refine LW.skip rfl rfl ?_
            refine LW.skip rfl rfl ?_
            refine LW.skip rfl rfl ?_
            refine LW.skip rfl rfl ?_
            first | refine LW.v (ov_pickT rfl rfl) ?_ | refine LW.v (ov_pickF rfl rfl) ?_ | refine LW.v (ov_pick rfl rfl rfl) ?_
            refine LW.v (ov_assign rfl) ?_
            refine LW.nil ?_
            refine KW.thenN ?_
            refine CW.condF rfl rfl ?_
            refine CW.seq ?_
            refine CW.region ?_
            refine LW.v (ov_move rfl) ?_
            refine LW.v (OpV.eq (ov_neq rfl rfl) (congrArg Value.bool (decide_eq_false (by first | omega | assumption)))) ?_
            refine LW.v (ov_move rfl) ?_
            refine LW.v (ov_fieldAddr fo85_4 rfl) ?_
            refine LW.v (ov_loadR 5 ta3 rfl rfl rfl) ?_
            refine LW.v (OpV.eq (ov_neq rfl rfl) (congrArg Value.bool (decide_eq_true (by first | omega | assumption)))) ?_
            first | refine LW.v (ov_pickT rfl rfl) ?_ | refine LW.v (ov_pickF rfl rfl) ?_ | refine LW.v (ov_pick rfl rfl rfl) ?_
            refine LW.v (ov_assign rfl) ?_
            refine LW.nil ?_
            refine KW.thenN ?_
            refine CW.condT rfl rfl ?_
            refine CW.seq ?_
            refine CW.region ?_
            refine LW.v (ov_loadR 3 ta88 rfl rfl rfl) ?_
            refine LW.v (ov_nilP rfl) ?_
            refine LW.v (ov_fieldAddr fo71_3 rfl) ?_
            refine LW.opU (ou_storeF ta4 rfl rfl (.one rfl) rfl rfl (.t (.t (.t (.h (.n))))) (.t (.h))) rfl ?_
            refine LW.nil ?_
            refine KW.thenN ?_
            refine KW.arrOpen 2 rfl (fun ad c => ?_)
            simp only [List.set_cons_succ, List.set_cons_zero, List.cons_append, List.nil_append]
            refine CW.region ?_
            refine LW.v (ov_loadR 4 ta91 rfl rfl rfl) ?_
            refine LW.v (ov_nilP rfl) ?_
            refine LW.v (ov_fieldAddr fo33_5 rfl) ?_
            refine LW.v (ov_loadR 2 ta3 rfl rfl rfl) ?_
            first | refine LW.v (ov_add rfl rfl (by omega)) ?_ | refine LW.v (ov_addW rfl rfl) ?_
            refine LW.v (ov_nilP rfl) ?_
            refine LW.v (ov_fieldAddr fo33_5 rfl) ?_
            refine LW.opU (ou_storeW ta3 rfl rfl (.one rfl) rfl rfl (.t (.t (.t (.t (.t (.h (.n))))))) (.t (.t (.h)))) rfl ?_
            refine LW.nil ?_
            refine KW.blockN ?_
            refine KW.thenN ?_
            refine KW.arrShut (a := { a with broken := a.broken + 1 }) 2 7 rfl rfl (by decide) rfl ?_
            exact KW.meet [0, 1, 2, 3, 4, 5] hMm ⟨rfl, rfl⟩ ⟨rfl, rfl, rfl, rfl, trivial⟩ rfl rfl
        · rw [if_pos (.inl h4)] at hp
          rw [hp] at hMm
          refine CW.seq ?_
          refine CW.region ?_
          refine LW.v (ov_move rfl) ?_
          refine LW.v (OpV.eq (ov_eql rfl rfl) (congrArg Value.bool (decide_eq_false (by first | omega | assumption)))) ?_
          refine LW.v (ov_move rfl) ?_
          refine LW.skip rfl rfl ?_
          refine LW.skip rfl rfl ?_
          refine LW.skip rfl rfl ?_
          refine LW.skip rfl rfl ?_
          refine LW.skip rfl rfl ?_
          refine LW.skip rfl rfl ?_
          refine LW.skip rfl rfl ?_
          first | refine LW.v (ov_pickT rfl rfl) ?_ | refine LW.v (ov_pickF rfl rfl) ?_ | refine LW.v (ov_pick rfl rfl rfl) ?_
          refine LW.v (ov_assign rfl) ?_
          refine LW.nil ?_
          refine KW.thenN ?_
          refine CW.condF rfl rfl ?_
          refine CW.seq ?_
          refine CW.region ?_
          refine LW.v (ov_move rfl) ?_
          refine LW.v (OpV.eq (ov_neq rfl rfl) (congrArg Value.bool (decide_eq_true (by first | omega | assumption)))) ?_
          refine LW.v (ov_move rfl) ?_
          refine LW.skip rfl rfl ?_
          refine LW.skip rfl rfl ?_
          refine LW.skip rfl rfl ?_
          first | refine LW.v (ov_pickT rfl rfl) ?_ | refine LW.v (ov_pickF rfl rfl) ?_ | refine LW.v (ov_pick rfl rfl rfl) ?_
          refine LW.v (ov_assign rfl) ?_
          refine LW.nil ?_
          refine KW.thenN ?_
          refine CW.condT rfl rfl ?_
          refine CW.seq ?_
          refine CW.region ?_
          refine LW.v (ov_loadR 3 ta88 rfl rfl rfl) ?_
          refine LW.v (ov_nilP rfl) ?_
          refine LW.v (ov_fieldAddr fo71_3 rfl) ?_
          refine LW.opU (ou_storeF ta4 rfl rfl (.one rfl) rfl rfl (.t (.t (.t (.h (.n))))) (.t (.h))) rfl ?_
          refine LW.nil ?_
          refine KW.thenN ?_
          refine KW.arrOpen 2 rfl (fun ad c => ?_)
          simp only [List.set_cons_succ, List.set_cons_zero, List.cons_append, List.nil_append]
          refine CW.region ?_
          refine LW.v (ov_loadR 4 ta91 rfl rfl rfl) ?_
          refine LW.v (ov_nilP rfl) ?_
          refine LW.v (ov_fieldAddr fo33_5 rfl) ?_
          refine LW.v (ov_loadR 2 ta3 rfl rfl rfl) ?_
          first | refine LW.v (ov_add rfl rfl (by omega)) ?_ | refine LW.v (ov_addW rfl rfl) ?_
          refine LW.v (ov_nilP rfl) ?_
          refine LW.v (ov_fieldAddr fo33_5 rfl) ?_
          refine LW.opU (ou_storeW ta3 rfl rfl (.one rfl) rfl rfl (.t (.t (.t (.t (.t (.h (.n))))))) (.t (.t (.h)))) rfl ?_
          refine LW.nil ?_
          refine KW.blockN ?_
          refine KW.thenN ?_
          refine KW.arrShut (a := { a with broken := a.broken + 1 }) 2 7 rfl rfl (by decide) rfl ?_
          exact KW.meet [0, 1, 2, 3, 4, 5] hMm ⟨rfl, rfl⟩ ⟨rfl, rfl, rfl, rfl, trivial⟩ rfl rfl
  rintro _ _ ⟨rfl, rfl⟩
  have hpl : (partP s a f).2.pks.length ≤ 1001 ∧ 0 ≤ (partP s a f).2.broken ∧ (partP s a f).2.broken ≤ 1001 := by
    unfold partP
    split
    · simp only
      split
      · have := dlv_len a (takeK (s.part ++ f.data.take (min f.first f.data.length).toNat)).1.apid (s.part ++ f.data.take (min f.first f.data.length).toNat)
        simp only [dlv_broken]; omega
      · split <;> simp only <;> omega
    · simp only; omega
  generalize partP s a f = r at hpl ⊢
  obtain ⟨s1, a1⟩ := r
  simp only at hpl ⊢
  by_cases hw : f.first = 2047
  · rw [if_pos hw]
    refine CW.seq ?_
    refine CW.seq ?_
    refine CW.region ?_
    refine LW.v (ov_fieldAddr fo85_4 rfl) ?_
    refine LW.v (ov_loadR 5 ta3 rfl rfl rfl) ?_
    refine LW.v (OpV.eq (ov_eql rfl rfl) (congrArg Value.bool (decide_eq_true (by first | omega | assumption)))) ?_
    refine LW.nil ?_
    refine KW.thenN ?_
    refine CW.condT rfl rfl ?_
    refine CW.ret ?_
    refine KW.thenR ?_
    exact KW.retP0 (.nil) [1, 2] rfl rfl (rfl)
  · rw [if_neg hw]
    have hdk : (f.data.drop k).length = f.data.length - k := List.length_drop
    refine CW.seq ?_
    refine CW.seq ?_
    refine CW.region ?_
    refine LW.v (ov_fieldAddr fo85_4 rfl) ?_
    refine LW.v (ov_loadR 5 ta3 rfl rfl rfl) ?_
    refine LW.v (OpV.eq (ov_eql rfl rfl) (congrArg Value.bool (decide_eq_false (by first | omega | assumption)))) ?_
    refine LW.nil ?_
    refine KW.thenN ?_
    refine CW.condF rfl rfl ?_
    refine CW.skip ?_
    refine KW.thenN ?_
    refine CW.seq ?_
    refine CW.region ?_
    refine LW.v (ov_loadR 3 ta88 rfl rfl rfl) ?_
    refine LW.v (ov_nilP rfl) ?_
    refine LW.v (ov_fieldAddr fo71_4 rfl) ?_
    refine LW.opU (ou_storeF ta9 rfl rfl (.one rfl) rfl rfl (.t (.t (.t (.t (.h (.n)))))) (.t (.h))) rfl ?_
    refine LW.nil ?_
    refine KW.thenN ?_
    refine CW.seq ?_
    refine CW.region ?_
    refine LW.v (ov_mkFunc rfl rfl) ?_
    refine LW.v (ov_assign rfl) ?_
    refine LW.nil ?_
    refine KW.thenN ?_
    refine CW.seq ?_
    refine CW.region ?_
    refine LW.v (ov_fieldAddr fo85_5 rfl) ?_
    refine LW.v (ov_loadR 5 ta9 rfl rfl rfl) ?_
    refine LW.v (ov_move rfl) ?_
    refine LW.v (OpV.eq (ov_ssLo un9 rfl rfl (by omega)) (congrArg S (show _ = f.data.drop k by rw [Int.toNat_natCast]))) ?_
    refine LW.v (ov_move rfl) ?_
    refine LW.call [] (oc_fn cf60 rfl) rfl rfl rfl rfl (packets_ok rfl) ?_
    rintro _ _ ⟨b6, b7, rfl, rfl⟩
    simp only [putBack, List.cons_append, List.nil_append]
    refine LW.nil ?_
    refine KW.thenN ?_
    refine CW.block ?_
    refine CW.rangeFuncX rfl cf92 [2, 4, 3, 1, 6, 7] rfl rfl (fun l fn X hX => ?_)
    refine Fn.ret (packets1_ok (s := { s1 with part := [] }) (data := f.data.drop k) (by omega) (by omega) (by omega) (fun a p b hb ha => ?hY)) ?hn
    case hY =>
      rw [hX]
      refine Yd.of (ps := [96, 97]) rfl rfl (fun w g => ?_)
      refine CW.seq ?_
      refine CW.region ?_
      refine LW.opBA (ob_alloc zc110 (fun _ => .c (.c (.c (.c (.n)))))) rfl rfl (fun b11 => ?_)
      refine LW.opU (ou_storeW ta110 rfl rfl .agg rfl rfl (.h (.h (.h (.h (.h (.n)))))) (.t (.t (.t (.t (.h)))))) rfl ?_
      refine LW.nil ?_
      refine KW.thenN ?_
      refine CW.region ?_
      refine LW.v (ov_assign rfl) ?_
      refine LW.nil ?_
      refine KW.thenN ?_
      refine KW.begin 1 rfl rfl rfl ?_
      refine CW.block ?_
      refine CW.region ?_
      refine LW.v (ov_loadR 3 ta91 rfl rfl rfl) ?_
      first | refine LW.v (ov_loadAR 1 ta110 rfl rfl (.h (.h (.h (.h (.h (.n))))))) ?_ | refine LW.v (ov_loadAR 2 ta110 rfl rfl (.h (.h (.h (.h (.h (.n))))))) ?_ | refine LW.v (ov_loadAR 3 ta110 rfl rfl (.h (.h (.h (.h (.h (.n))))))) ?_ | refine LW.v (ov_loadAR 4 ta110 rfl rfl (.h (.h (.h (.h (.h (.n))))))) ?_
      refine LW.v (ov_move rfl) ?_
      refine LW.call [2] (oc_fn cf58 rfl) rfl rfl rfl rfl (deliver_ok (by omega) (by omega)) ?_
      rintro _ _ rfl
      simp only [putBack, List.set_cons_succ, List.set_cons_zero, List.append_nil]
      refine LW.nil ?_
      refine KW.blockN ?_
      exact KW.round none (.inl ⟨rfl, rfl⟩) 1 rfl [1, 2, 3] rfl rfl ⟨rfl, rfl⟩
    case hn =>
    rintro _ _ ⟨data', rfl⟩
    refine ⟨.ready, none, _, by decide, rfl, fun d => ?_⟩
    simp only [putBack, List.set_cons_succ, List.set_cons_zero, List.cons_append, List.nil_append]
    refine KW.afterN ?_
    refine KW.blockN ?_
    exact KW.endP 8 rfl rfl (.nil) [1, 2] rfl rfl (rfl)
end Sx
end Go.Proofs.Ytdgphamhpjnmpaa

/- A demux: a frame. -/
namespace Go.Proofs.Ytdgphamhpjnmpaa
namespace Sx

structure Dm where
  craft : Int
  size : Int
  known : Bool
  master : Int
  sinks : List Snk
def snks (l : List Snk) : List Value := flat (l.map snkC)
abbrev dmr (ty : TypeId) (d : Nat) (D : Dm) : HP := row d ty (.int .i64 D.craft :: .int .i64 D.size :: .bool D.known :: .int .i64 D.master :: snks D.sinks)
abbrev arrV (ad : Option Addr) (c : Nat) (a : Arr) : Value := .agg #[.int .i64 a.ch, .bool a.dbl, .int .i64 a.lost, .int .i64 a.missed, .slice ad a.pks.length c, .int .i64 a.broken, .int .u32 a.word]
abbrev a00 : Arr := ⟨0, false, 0, 0, [], 0, 0⟩
def mis (k : Bool) (m : Int) (f : Tf) : Int := if k = true then (f.master - m - 1) % 256 else 0
def los (s : Snk) (f : Tf) : Int := if s.known = true then (f.count - s.count - 1) % 256 else 0
def snk1 (s : Snk) (f : Tf) (b : List UInt8) : Snk := if los s f ≠ 0 ∧ s.begun = true then ⟨true, b, f.count, false, []⟩ else ⟨true, b, f.count, s.begun, s.part⟩
def arr1 (k : Bool) (m : Int) (s : Snk) (f : Tf) : Arr := ⟨f.chan, false, los s f, mis k m f, [], if los s f ≠ 0 ∧ s.begun = true then 1 else 0, f.word⟩
def frameF (T : Snk → Arr → Tf → Snk × Arr) (D : Dm) (b : List UInt8) (f : Tf) (s : Snk) : Arr × Dm :=
  if s.known = true ∧ s.frame = b then (⟨f.chan, true, 0, 0, [], 0, f.word⟩, D)
  else if f.first ≠ 2046 then ((T (snk1 s f b) (arr1 D.known D.master s f) f).2, ⟨D.craft, D.size, true, f.master, D.sinks.set f.chan.toNat (T (snk1 s f b) (arr1 D.known D.master s f) f).1⟩)
  else (arr1 D.known D.master s f, ⟨D.craft, D.size, true, f.master, D.sinks.set f.chan.toNat (snk1 s f b)⟩)
def feedF (T : Snk → Arr → Tf → Snk × Arr) (D : Dm) (b : List UInt8) : (Arr × Int) × Dm :=
  if (getT b).2 ≠ 0 then ((a00, (getT b).2), D)
  else if (getT b).1.craft ≠ D.craft ∨ ((getT b).1.data.length : Int) ≠ D.size then ((a00, 2), D)
  else match D.sinks[(getT b).1.chan.toNat]? with
    | none => ((a00, 0), D)
    | some s => (((frameF T D b (getT b).1 s).1, 0), (frameF T D b (getT b).1 s).2)
theorem getT_ok {b : List UInt8} (h : (getT b).2 = 0) : (getT b).1.ok := by
  unfold getT at h ⊢
  split at h
  · cases h
  · rename_i h1
    split at h
    · cases h
    · rename_i h2
      split at h
      · cases h
      · rename_i h3
        rw [if_neg h1, if_neg h2, if_neg h3]
        exact Decidable.of_not_not (fun q => h3 (.inr q))
abbrev dmF (ty : TypeId) (d k : Nat) (v0 v1 v2 v3 : Value) (L : List Snk) (s : Snk) : HP := rowF d ty (0 + 4 + k * 5) (snkC s) (v0 :: v1 :: v2 :: v3 :: snks (L.take k)) (snks (L.drop (k + 1)))
section
variable {C : Cx} {ds : List Deferred} {env : Env} {As : List HP} {K : Act → World → Prop}
theorem snks_len (l : List Snk) : (snks l).length = l.length * 5 := by
  rw [snks, flat_len (sz := 5) (by intro e he; obtain ⟨s, _, rfl⟩ := List.mem_map.1 he; rfl), List.length_map]
theorem KW.dmIn (i : Nat) {ty : TypeId} {d : Nat} {v0 v1 v2 v3 : Value} {L : List Snk} {k : Nat} {s : Snk} (hi : As[i]? = some (row d ty (v0 :: v1 :: v2 :: v3 :: snks L))) (hs : L[k]? = some s)
    (h : KW C ds K env (As.set i (dmF ty d k v0 v1 v2 v3 L s))) : KW C ds K env As := by
  refine KW.turn (fun w hw => hw.imp i hi fun g hg => ⟨?_, ?_⟩) h
  · have := lt_of_get hs
    simp only [List.length_cons, snks_len, List.length_take]; rw [Nat.min_eq_left (by omega)]; omega
  · have e : snks L = snks (L.take k) ++ snkC s ++ snks (L.drop (k + 1)) := by
      rw [snks, flat_split (i := k) (e := snkC s) (by rw [List.getElem?_map, hs]; rfl), snks, snks, List.map_take, List.map_drop]
    rw [e] at hg; simpa using hg
theorem KW.dmOut (i : Nat) {ty : TypeId} {d : Nat} {v0 v1 v2 v3 : Value} {L : List Snk} {k : Nat} {s s0 : Snk} (hi : As[i]? = some (dmF ty d k v0 v1 v2 v3 L s)) (hs : L[k]? = some s0)
    (h : KW C ds K env (As.set i (row d ty (v0 :: v1 :: v2 :: v3 :: snks (L.set k s))))) : KW C ds K env As := by
  refine KW.turn (fun w hw => hw.imp i hi fun g hg => ?_) h
  have e : snks (L.set k s) = snks (L.take k) ++ snkC s ++ snks (L.drop (k + 1)) := by
    rw [snks, List.map_set, flat_set (by rw [List.length_map]; exact lt_of_get hs), snks, snks, List.map_take, List.map_drop]
  rw [e]; simpa using hg.2
end
theorem set_same {α : Type} {L : List α} {k : Nat} {s : α} (h : L[k]? = some s) : L.set k s = L := by
  apply List.ext_getElem?; intro j
  rw [List.getElem?_set]
  split
  · rename_i e; subst e; rw [if_pos (lt_of_get h), h]
  · rfl
abbrev tfR (b : Nat) (f : Tf) : HP := row b 85 [.int .i64 f.craft, .int .i64 f.chan, .int .i64 f.master, .int .i64 f.count, .int .i64 f.first, S f.data, .int .u32 f.word]
end Sx
end Go.Proofs.Ytdgphamhpjnmpaa

/- A demux: Feed. -/
namespace Go.Proofs.Ytdgphamhpjnmpaa
namespace Sx

theorem feed_ok {d : Nat} {D : Dm} {b : List UInt8} (hb : b.length ≤ 2000) (hsz : D.size ≠ 0) (hm : 0 ≤ D.master ∧ D.master ≤ 255) (hl : D.sinks.length = 8) (hs : ∀ s ∈ D.sinks, 0 ≤ s.count ∧ s.count ≤ 255 ∧ (s.begun = true → s.part.length ≤ 3000)) :
    Fn Try.prog 11 #[P1 d 0, S b] [dmr 74 d D]
      (Ret fun v Q => ∃ ad c, v = .tuple #[arrV ad c (feedF takeF D b).1.1, .int .i64 (feedF takeF D b).1.2] ∧ Q = [dmr 74 d (feedF takeF D b).2, pown ad c (feedF takeF D b).1.1]) := by
  generalize hF : feedF takeF D b = F
  rw [feedF] at hF
  have hget := TGet_ok (s := b) (by omega)
  have hok := @getT_ok b
  generalize getT b = r at hF hget hok
  obtain ⟨f, e⟩ := r
  obtain ⟨craft, size, known, master, L⟩ := D
  simp only at hF hget hok hsz hm hl hs
  simp only [dmr]
  refine Fn.of (args := _) Try.func11 rfl Try.ntmps11 rfl ?_
  intro w0 g0
  refine KW.turn (fun w hw => hw.nil1 (A := pown none 0 a00) (fun g => ownS_nil _ _ g)) ?_
  simp only [List.cons_append, List.nil_append]
  refine CW.seq ?_
  refine CW.region ?_
  refine LW.opBA (ob_alloc zc33 (fun _ => .c (.c (.c (.n))))) rfl rfl (fun b4 => ?_)
  refine LW.v (ov_assign rfl) ?_
  refine LW.nil ?_
  refine KW.thenN ?_
  refine CW.seq ?_
  refine CW.seq ?_
  refine CW.region ?_
  refine LW.v (ov_move rfl) ?_
  refine LW.v (ov_ptreql un24 rfl rfl (by simp)) ?_
  refine LW.v (ov_move rfl) ?_
  refine LW.v (ov_move rfl) ?_
  refine LW.v (ov_nilP rfl) ?_
  refine LW.v (ov_fieldAddr fo74_1 rfl) ?_
  refine LW.v (ov_loadR 1 ta3 rfl rfl rfl) ?_
  refine LW.v (OpV.eq (ov_eql rfl rfl) (congrArg Value.bool (decide_eq_false (by first | omega | assumption)))) ?_
  first | refine LW.v (ov_pickT rfl rfl) ?_ | refine LW.v (ov_pickF rfl rfl) ?_ | refine LW.v (ov_pick rfl rfl rfl) ?_
  refine LW.nil ?_
  refine KW.thenN ?_
  refine CW.condF rfl rfl ?_
  refine CW.skip ?_
  refine KW.thenN ?_
  refine CW.seq ?_
  refine CW.region ?_
  refine LW.v (ov_move rfl) ?_
  refine LW.call [] (oc_fn cf29 rfl) rfl rfl rfl rfl (hget) ?_
  rintro _ _ ⟨rfl, rfl⟩
  simp only [putBack, List.append_nil]
  refine LW.v (ov_move rfl) ?_
  refine LW.v (ov_extract rfl rfl) ?_
  refine LW.v (ov_extract rfl rfl) ?_
  refine LW.opBA (ob_alloc zc85 (fun _ => .c (.c (.c (.c (.n)))))) rfl rfl (fun b6 => ?_)
  refine LW.opU (ou_storeW ta85 rfl rfl .agg rfl rfl (.h (.h (.h (.h (.h (.h (.h (.n)))))))) (.t (.t (.t (.t (.h)))))) rfl ?_
  refine LW.v (ov_assign rfl) ?_
  refine LW.nil ?_
  refine KW.thenN ?_
  refine CW.seq ?_
  refine CW.seq ?_
  refine CW.region ?_
  refine LW.v (ov_move rfl) ?_
  refine LW.v (ov_neq rfl rfl) ?_
  refine LW.nil ?_
  refine KW.thenN ?_
  refine CW.condD (by rfl) (fun h => ?_) (fun h => ?_)
  · rw [if_pos h] at hF
    subst hF
    refine CW.seq ?_
    refine CW.region ?_
    refine LW.v (ov_build zc33 pl33 rfl (.n)) ?_
    refine LW.v (ov_move rfl) ?_
    refine LW.opU (ou_storeW ta33 rfl rfl .agg rfl rfl (.h (.h (.h (.h (.h (.h (.h (.n)))))))) (.t (.t (.t (.h))))) rfl ?_
    refine LW.v (ov_assign rfl) ?_
    refine LW.nil ?_
    refine KW.thenN ?_
    refine CW.ret ?_
    refine KW.thenR ?_
    exact KW.retF (.cons (ResV.cellA 3 ta33 rfl rfl (.h (.h (.h (.h (.h (.h (.h (.n))))))))) (.cons (.tmp rfl) (.nil))) [1, 2] rfl rfl (⟨none, 0, rfl, rfl⟩)
  have he : e = 0 := Decidable.of_not_not h
  rw [if_neg h] at hF
  have hfo := hok he
  clear hok
  unfold Tf.ok at hfo
  by_cases hx : f.craft = craft ∧ (f.data.length : Int) = size
  rotate_left
  · rw [if_pos (by omega)] at hF
    subst hF
    by_cases hc : f.craft = craft
    · refine CW.skip ?_
      refine KW.thenN ?_
      refine CW.seq ?_
      refine CW.seq ?_
      refine CW.draw [1,4] rfl mixed rfl (ls := #[false, false, false, false, false, false, false, false, false, false, false, false, false, false, false, false, false]) (by kernel_rfl) ?_
      refine DW.tk 0 [1,4] rfl (ov_fieldAddr fo85_0 rfl) ?_
      refine DW.tk 1 [1,4] rfl (ov_loadR 1 ta3 rfl rfl rfl) ?_
      refine DW.tk 2 [1,4] rfl (ov_move rfl) ?_
      first | refine DW.tk 3 [1,4] rfl (ov_nilP rfl) ?_ | refine DW.tk 3 [1,4] rfl (ov_nilF rfl) ?_
      refine DW.tk 4 [1,4] rfl (ov_fieldAddr fo74_0 rfl) ?_
      refine DW.tk 5 [1,4] rfl (ov_loadR 0 ta3 rfl rfl rfl) ?_
      refine DW.tk 6 [1,4] rfl (OpV.eq (ov_neq rfl rfl) (congrArg Value.bool (decide_eq_false (by first | omega | assumption)))) ?_
      refine DW.tk 7 [1,4] rfl (ov_move rfl) ?_
      refine DW.tk 8 [1,4] rfl (ov_fieldAddr fo85_5 rfl) ?_
      refine DW.tk 9 [1,4] rfl (ov_loadR 1 ta9 rfl rfl rfl) ?_
      refine DW.tk 10 [1,4] rfl (ov_lenS un9 rfl) ?_
      refine DW.tk 11 [1,4] rfl (ov_move rfl) ?_
      first | refine DW.tk 12 [1,4] rfl (ov_nilP rfl) ?_ | refine DW.tk 12 [1,4] rfl (ov_nilF rfl) ?_
      refine DW.tk 13 [1,4] rfl (ov_fieldAddr fo74_1 rfl) ?_
      refine DW.tk 14 [1,4] rfl (ov_loadR 0 ta3 rfl rfl rfl) ?_
      refine DW.tk 15 [1,4] rfl (OpV.eq (ov_neq rfl rfl) (congrArg Value.bool (decide_eq_true (by first | omega | assumption)))) ?_
      first | refine DW.tk 16 [1,4] rfl (ov_pickT rfl rfl) ?_ | refine DW.tk 16 [1,4] rfl (ov_pickF rfl rfl) ?_ | refine DW.tk 16 [1,4] rfl (ov_pick rfl rfl rfl) ?_
      refine DW.done (by kernel_rfl) ?_
      refine KW.thenN ?_
      refine CW.condT rfl rfl ?_
      refine CW.seq ?_
      refine CW.region ?_
      refine LW.v (ov_build zc33 pl33 rfl (.n)) ?_
      refine LW.opU (ou_storeW ta33 rfl rfl .agg rfl rfl (.h (.h (.h (.h (.h (.h (.h (.n)))))))) (.t (.t (.t (.h))))) rfl ?_
      refine LW.v (ov_assign rfl) ?_
      refine LW.nil ?_
      refine KW.thenN ?_
      refine CW.ret ?_
      refine KW.thenR ?_
      exact KW.retF (.cons (ResV.cellA 3 ta33 rfl rfl (.h (.h (.h (.h (.h (.h (.h (.n))))))))) (.cons (.tmp rfl) (.nil))) [1, 2] rfl rfl (⟨none, 0, rfl, rfl⟩)
    · refine CW.skip ?_
      refine KW.thenN ?_
      refine CW.seq ?_
      refine CW.seq ?_
      refine CW.draw [1,4] rfl mixed rfl (ls := #[false, false, false, false, false, false, false, false, false, false, false, false, false, false, false, false, false]) (by kernel_rfl) ?_
      refine DW.tk 0 [1,4] rfl (ov_fieldAddr fo85_0 rfl) ?_
      refine DW.tk 1 [1,4] rfl (ov_loadR 1 ta3 rfl rfl rfl) ?_
      refine DW.tk 2 [1,4] rfl (ov_move rfl) ?_
      first | refine DW.tk 3 [1,4] rfl (ov_nilP rfl) ?_ | refine DW.tk 3 [1,4] rfl (ov_nilF rfl) ?_
      refine DW.tk 4 [1,4] rfl (ov_fieldAddr fo74_0 rfl) ?_
      refine DW.tk 5 [1,4] rfl (ov_loadR 0 ta3 rfl rfl rfl) ?_
      refine DW.tk 6 [1,4] rfl (OpV.eq (ov_neq rfl rfl) (congrArg Value.bool (decide_eq_true (by first | omega | assumption)))) ?_
      refine DW.tk 7 [1,4] rfl (ov_move rfl) ?_
      refine DW.skip 8 [1,4] rfl (by kernel_rfl) (by kernel_rfl) (by kernel_rfl) (fun _ _ _ h => h) rfl rfl rfl rfl rfl ?_
      refine DW.skip 9 [1,4] rfl (by kernel_rfl) (by kernel_rfl) (by kernel_rfl) (fun _ _ _ h => h) rfl rfl rfl rfl rfl ?_
      refine DW.skip 10 [1,4] rfl (by kernel_rfl) (by kernel_rfl) (by kernel_rfl) (fun _ _ _ h => h) rfl rfl rfl rfl rfl ?_
      refine DW.skip 11 [1,4] rfl (by kernel_rfl) (by kernel_rfl) (by kernel_rfl) (fun _ _ _ h => h) rfl rfl rfl rfl rfl ?_
      refine DW.skip 12 [1,4] rfl (by kernel_rfl) (by kernel_rfl) (by kernel_rfl) (fun _ _ _ h => h) rfl rfl rfl rfl rfl ?_
      refine DW.skip 13 [1,4] rfl (by kernel_rfl) (by kernel_rfl) (by kernel_rfl) (fun _ _ _ h => h) rfl rfl rfl rfl rfl ?_
      refine DW.skip 14 [1,4] rfl (by kernel_rfl) (by kernel_rfl) (by kernel_rfl) (fun _ _ _ h => h) rfl rfl rfl rfl rfl ?_
      refine DW.skip 15 [1,4] rfl (by kernel_rfl) (by kernel_rfl) (by kernel_rfl) (fun _ _ _ h => h) rfl rfl rfl rfl rfl ?_
      first | refine DW.tk 16 [1,4] rfl (ov_pickT rfl rfl) ?_ | refine DW.tk 16 [1,4] rfl (ov_pickF rfl rfl) ?_ | refine DW.tk 16 [1,4] rfl (ov_pick rfl rfl rfl) ?_
      refine DW.done (by kernel_rfl) ?_
      refine KW.thenN ?_
      refine CW.condT rfl rfl ?_
      refine CW.seq ?_
      refine CW.region ?_
      refine LW.v (ov_build zc33 pl33 rfl (.n)) ?_
      refine LW.opU (ou_storeW ta33 rfl rfl .agg rfl rfl (.h (.h (.h (.h (.h (.h (.h (.n)))))))) (.t (.t (.t (.h))))) rfl ?_
      refine LW.v (ov_assign rfl) ?_
      refine LW.nil ?_
      refine KW.thenN ?_
      refine CW.ret ?_
      refine KW.thenR ?_
      exact KW.retF (.cons (ResV.cellA 3 ta33 rfl rfl (.h (.h (.h (.h (.h (.h (.h (.n))))))))) (.cons (.tmp rfl) (.nil))) [1, 2] rfl rfl (⟨none, 0, rfl, rfl⟩)
  obtain ⟨rfl, rfl⟩ := hx
  rw [if_neg (by omega)] at hF
  obtain ⟨k, hk⟩ : ∃ k : Nat, f.chan = (k : Int) := ⟨f.chan.toNat, by omega⟩
  have hk8 : k < 8 := by omega
  obtain ⟨s, hsk⟩ : ∃ s, L[k]? = some s := ⟨_, List.getElem?_eq_getElem (by omega)⟩
  have hsm := hs s (List.mem_of_getElem? hsk)
  have hkn : f.chan.toNat = k := by omega
  rw [hkn, hsk] at hF
  simp only [frameF, hkn] at hF
  refine CW.skip ?_
  refine KW.thenN ?_
  refine CW.seq ?_
  refine CW.seq ?_
  refine CW.draw [1,4] rfl mixed rfl (ls := #[false, false, false, false, false, false, false, false, false, false, false, false, false, false, false, false, false]) (by kernel_rfl) ?_
  refine DW.tk 0 [1,4] rfl (ov_fieldAddr fo85_0 rfl) ?_
  refine DW.tk 1 [1,4] rfl (ov_loadR 1 ta3 rfl rfl rfl) ?_
  refine DW.tk 2 [1,4] rfl (ov_move rfl) ?_
  first | refine DW.tk 3 [1,4] rfl (ov_nilP rfl) ?_ | refine DW.tk 3 [1,4] rfl (ov_nilF rfl) ?_
  refine DW.tk 4 [1,4] rfl (ov_fieldAddr fo74_0 rfl) ?_
  refine DW.tk 5 [1,4] rfl (ov_loadR 0 ta3 rfl rfl rfl) ?_
  refine DW.tk 6 [1,4] rfl (OpV.eq (ov_neq rfl rfl) (congrArg Value.bool (decide_eq_false (by first | omega | assumption)))) ?_
  refine DW.tk 7 [1,4] rfl (ov_move rfl) ?_
  refine DW.tk 8 [1,4] rfl (ov_fieldAddr fo85_5 rfl) ?_
  refine DW.tk 9 [1,4] rfl (ov_loadR 1 ta9 rfl rfl rfl) ?_
  refine DW.tk 10 [1,4] rfl (ov_lenS un9 rfl) ?_
  refine DW.tk 11 [1,4] rfl (ov_move rfl) ?_
  first | refine DW.tk 12 [1,4] rfl (ov_nilP rfl) ?_ | refine DW.tk 12 [1,4] rfl (ov_nilF rfl) ?_
  refine DW.tk 13 [1,4] rfl (ov_fieldAddr fo74_1 rfl) ?_
  refine DW.tk 14 [1,4] rfl (ov_loadR 0 ta3 rfl rfl rfl) ?_
  refine DW.tk 15 [1,4] rfl (OpV.eq (ov_neq rfl rfl) (congrArg Value.bool (decide_eq_false (by first | omega | assumption)))) ?_
  first | refine DW.tk 16 [1,4] rfl (ov_pickT rfl rfl) ?_ | refine DW.tk 16 [1,4] rfl (ov_pickF rfl rfl) ?_ | refine DW.tk 16 [1,4] rfl (ov_pick rfl rfl rfl) ?_
  refine DW.done (by kernel_rfl) ?_
  refine KW.thenN ?_
  refine CW.condF rfl rfl ?_
  refine CW.skip ?_
  refine KW.thenN ?_
  refine CW.seq ?_
  refine CW.region ?_
  refine LW.v (ov_fieldAddr fo85_1 rfl) ?_
  refine LW.v (ov_loadR 4 ta3 rfl rfl rfl) ?_
  refine LW.v (ov_fieldAddr fo85_6 rfl) ?_
  refine LW.v (ov_loadR 4 ta31 rfl rfl rfl) ?_
  refine LW.v (ov_build zc33 pl33 rfl (.c rfl (.one rfl) rfl (.h (.n)) (.c rfl (.one rfl) rfl (.t (.t (.t (.t (.t (.t (.h (.n)))))))) (.n)))) ?_
  refine LW.opBA (ob_alloc zc33 (fun _ => .c (.c (.c (.c (.c (.n))))))) rfl rfl (fun b8 => ?_)
  refine LW.opU (ou_storeW ta33 rfl rfl .agg rfl rfl (.h (.h (.h (.h (.h (.h (.h (.n)))))))) (.t (.t (.t (.t (.t (.h))))))) rfl ?_
  refine LW.nil ?_
  refine KW.thenN ?_
  refine CW.seq ?_
  refine CW.draw [4] rfl mixed rfl (ls := #[false, false, false, false, false, false, false]) (by kernel_rfl) ?_
  refine DW.tk 0 [4] rfl (ov_move rfl) ?_
  refine DW.tk 1 [4] rfl (ov_fieldAddr fo85_1 rfl) ?_
  refine DW.tk 2 [4] rfl (ov_loadR 0 ta3 rfl rfl rfl) ?_
  first | refine DW.tk 3 [4] rfl (ov_nilP rfl) ?_ | refine DW.tk 3 [4] rfl (ov_nilF rfl) ?_
  refine DW.tk 4 [4] rfl (ov_fieldAddr fo74_4 rfl) ?_
  refine DW.tk 5 [4] rfl (ov_idxA (i := k) ar72 ta71 rfl rfl hk (by omega)) ?_
  refine DW.tk 6 [4] rfl (ov_assign rfl) ?_
  refine DW.done (by kernel_rfl) ?_
  refine KW.thenN ?_
  refine KW.dmIn 1 rfl hsk ?_
  simp only [List.set_cons_succ, List.set_cons_zero]
  refine CW.cut (fun env As => env = [(0, P1 d 0), (1, S b), (4, P1 b4 0), (6, P1 b6 0), (8, P1 b8 0), (9, P1 d (0 + 4 + k * 5))] ∧ ¬(s.known = true ∧ s.frame = b) ∧ As = [ex g0, dmr 74 d ⟨f.craft, f.data.length, known, master, L⟩, pown none 0 a00, arow b4 none 0 a00, tfR b6 f, arow b8 none 0 ⟨f.chan, false, 0, 0, [], 0, f.word⟩]) (fun Mm hMm => ?_) ?_
  · obtain ⟨sk, sf, sc, sb, sp⟩ := s
    simp only at hF hMm
    cases sk with
    | false =>
      refine CW.seq ?_
      refine CW.region ?_
      refine LW.v (ov_move rfl) ?_
      refine LW.v (ov_nilP rfl) ?_
      refine LW.v (ov_fieldAddr fo71_0 rfl) ?_
      refine LW.v (ov_loadF 1 ta4 rfl rfl rfl) ?_
      refine LW.v (ov_move rfl) ?_
      refine LW.skip rfl rfl ?_
      refine LW.skip rfl rfl ?_
      refine LW.skip rfl rfl ?_
      refine LW.skip rfl rfl ?_
      refine LW.skip rfl rfl ?_
      refine LW.skip rfl rfl ?_
      first | refine LW.v (ov_pickT rfl rfl) ?_ | refine LW.v (ov_pickF rfl rfl) ?_ | refine LW.v (ov_pick rfl rfl rfl) ?_
      refine LW.nil ?_
      refine KW.thenN ?_
      refine CW.condF rfl rfl ?_
      refine CW.skip ?_
      refine KW.thenN ?_
      refine KW.dmOut 1 rfl hsk ?_
      rw [set_same hsk]
      exact KW.meet [0, 1, 2, 3, 4, 5] hMm ⟨rfl, by simp, rfl⟩ ⟨rfl, rfl, rfl, rfl, rfl, rfl, trivial⟩ rfl rfl
    | true =>
      by_cases hfr : sf = b
      · rw [if_pos ⟨rfl, hfr⟩] at hF
        subst hF
        refine CW.seq ?_
        refine CW.region ?_
        refine LW.v (ov_move rfl) ?_
        refine LW.v (ov_nilP rfl) ?_
        refine LW.v (ov_fieldAddr fo71_0 rfl) ?_
        refine LW.v (ov_loadF 1 ta4 rfl rfl rfl) ?_
        refine LW.v (ov_move rfl) ?_
        refine LW.v (ov_move rfl) ?_
        refine LW.v (ov_nilP rfl) ?_
        refine LW.v (ov_fieldAddr fo71_1 rfl) ?_
        refine LW.v (ov_loadF 1 ta9 rfl rfl rfl) ?_
        refine LW.v (ov_move rfl) ?_
        refine LW.v (OpV.eq (ov_strEql rfl rfl) (congrArg Value.bool (decide_eq_true (by first | omega | assumption)))) ?_
        first | refine LW.v (ov_pickT rfl rfl) ?_ | refine LW.v (ov_pickF rfl rfl) ?_ | refine LW.v (ov_pick rfl rfl rfl) ?_
        refine LW.nil ?_
        refine KW.thenN ?_
        refine CW.condT rfl rfl ?_
        refine CW.seq ?_
        refine CW.region ?_
        refine LW.v (ov_fieldAddr fo33_1 rfl) ?_
        refine LW.opU (ou_storeW ta4 rfl rfl (.one rfl) rfl rfl (.t (.h (.n))) (.t (.t (.t (.t (.t (.h))))))) rfl ?_
        refine LW.nil ?_
        refine KW.thenN ?_
        refine CW.seq ?_
        refine CW.region ?_
        refine LW.v (ov_loadAR 5 ta33 rfl rfl (.h (.h (.h (.h (.h (.h (.h (.n))))))))) ?_
        refine LW.opU (ou_storeW ta33 rfl rfl .agg rfl rfl (.h (.h (.h (.h (.h (.h (.h (.n)))))))) (.t (.t (.t (.h))))) rfl ?_
        refine LW.v (ov_assign rfl) ?_
        refine LW.nil ?_
        refine KW.thenN ?_
        refine CW.ret ?_
        refine KW.thenR ?_
        refine KW.dmOut 1 rfl hsk ?_
        rw [set_same hsk]
        exact KW.retF (.cons (ResV.cellA 3 ta33 rfl rfl (.h (.h (.h (.h (.h (.h (.h (.n))))))))) (.cons (.tmp rfl) (.nil))) [1, 2] rfl rfl (⟨none, 0, rfl, rfl⟩)
      · refine CW.seq ?_
        refine CW.region ?_
        refine LW.v (ov_move rfl) ?_
        refine LW.v (ov_nilP rfl) ?_
        refine LW.v (ov_fieldAddr fo71_0 rfl) ?_
        refine LW.v (ov_loadF 1 ta4 rfl rfl rfl) ?_
        refine LW.v (ov_move rfl) ?_
        refine LW.v (ov_move rfl) ?_
        refine LW.v (ov_nilP rfl) ?_
        refine LW.v (ov_fieldAddr fo71_1 rfl) ?_
        refine LW.v (ov_loadF 1 ta9 rfl rfl rfl) ?_
        refine LW.v (ov_move rfl) ?_
        refine LW.v (OpV.eq (ov_strEql rfl rfl) (congrArg Value.bool (decide_eq_false (by first | omega | assumption)))) ?_
        first | refine LW.v (ov_pickT rfl rfl) ?_ | refine LW.v (ov_pickF rfl rfl) ?_ | refine LW.v (ov_pick rfl rfl rfl) ?_
        refine LW.nil ?_
        refine KW.thenN ?_
        refine CW.condF rfl rfl ?_
        refine CW.skip ?_
        refine KW.thenN ?_
        refine KW.dmOut 1 rfl hsk ?_
        rw [set_same hsk]
        exact KW.meet [0, 1, 2, 3, 4, 5] hMm ⟨rfl, by simp [hfr], rfl⟩ ⟨rfl, rfl, rfl, rfl, rfl, rfl, trivial⟩ rfl rfl
  rintro _ _ ⟨rfl, hnd, rfl⟩
  rw [if_neg hnd] at hF
  refine CW.cut (fun env As => env = [(0, P1 d 0), (1, S b), (4, P1 b4 0), (6, P1 b6 0), (8, P1 b8 0), (9, P1 d (0 + 4 + k * 5))] ∧ As = [ex g0, dmr 74 d ⟨f.craft, f.data.length, known, master, L⟩, pown none 0 a00, arow b4 none 0 a00, tfR b6 f, arow b8 none 0 ⟨f.chan, false, 0, mis known master f, [], 0, f.word⟩]) (fun Mm hMm => ?_) ?_
  · cases known with
    | false =>
      refine CW.seq ?_
      refine CW.region ?_
      refine LW.v (ov_move rfl) ?_
      refine LW.v (ov_nilP rfl) ?_
      refine LW.v (ov_fieldAddr fo74_2 rfl) ?_
      refine LW.v (ov_loadR 1 ta4 rfl rfl rfl) ?_
      refine LW.nil ?_
      refine KW.thenN ?_
      refine CW.condF rfl rfl ?_
      refine CW.skip ?_
      refine KW.thenN ?_
      exact KW.meet [0, 1, 2, 3, 4, 5] hMm ⟨rfl, rfl⟩ ⟨rfl, rfl, rfl, rfl, rfl, rfl, trivial⟩ rfl rfl
    | true =>
      refine CW.seq ?_
      refine CW.region ?_
      refine LW.v (ov_move rfl) ?_
      refine LW.v (ov_nilP rfl) ?_
      refine LW.v (ov_fieldAddr fo74_2 rfl) ?_
      refine LW.v (ov_loadR 1 ta4 rfl rfl rfl) ?_
      refine LW.nil ?_
      refine KW.thenN ?_
      refine CW.condT rfl rfl ?_
      refine CW.draw [1,4] rfl mixed rfl (ls := #[false, false, false, false, false, false, false, false, false]) (by kernel_rfl) ?_
      refine DW.tk 0 [1,4] rfl (ov_fieldAddr fo85_2 rfl) ?_
      refine DW.tk 1 [1,4] rfl (ov_loadR 1 ta3 rfl rfl rfl) ?_
      refine DW.tk 2 [1,4] rfl (ov_move rfl) ?_
      first | refine DW.tk 3 [1,4] rfl (ov_nilP rfl) ?_ | refine DW.tk 3 [1,4] rfl (ov_nilF rfl) ?_
      refine DW.tk 4 [1,4] rfl (ov_fieldAddr fo74_3 rfl) ?_
      refine DW.tk 5 [1,4] rfl (ov_loadR 0 ta3 rfl rfl rfl) ?_
      refine DW.all1 6 (by kernel_rfl) ?_
      refine DO.call [1,4] [] rfl (oc_fn cf30 rfl) rfl rfl rfl rfl (behind_ok f.master master (by omega) (by omega)) (by rintro _ _ ⟨rfl, rfl⟩; exact ⟨rfl, rfl⟩) rfl ?_
      rintro _ _ ⟨rfl, rfl⟩
      simp only [putBack, List.append_nil]
      refine DW.tk 7 [1,4] rfl (ov_fieldAddr fo33_3 rfl) ?_
      refine DW.all1 8 (by kernel_rfl) ?_
      refine DO.opU [1,4] rfl (ou_storeW ta3 rfl rfl (.one rfl) rfl rfl (.t (.t (.t (.h (.n))))) (.t (.t (.t (.t (.t (.h))))))) rfl rfl rfl rfl ?_
      refine DW.done (by kernel_rfl) ?_
      refine KW.thenN ?_
      exact KW.meet [0, 1, 2, 3, 4, 5] hMm ⟨rfl, rfl⟩ ⟨rfl, rfl, rfl, rfl, rfl, rfl, trivial⟩ rfl rfl
  rintro _ _ ⟨rfl, rfl⟩
  refine KW.dmIn 1 rfl hsk ?_
  simp only [List.set_cons_succ, List.set_cons_zero]
  refine CW.cut (fun env As => env = [(0, P1 d 0), (1, S b), (4, P1 b4 0), (6, P1 b6 0), (8, P1 b8 0), (9, P1 d (0 + 4 + k * 5))] ∧ As = [ex g0, dmr 74 d ⟨f.craft, f.data.length, known, master, L⟩, pown none 0 a00, arow b4 none 0 a00, tfR b6 f, arow b8 none 0 ⟨f.chan, false, los s f, mis known master f, [], 0, f.word⟩]) (fun Mm hMm => ?_) ?_
  · obtain ⟨sk, sf, sc, sb, sp⟩ := s
    simp only at hMm hsm
    cases sk with
    | false =>
      refine CW.seq ?_
      refine CW.region ?_
      refine LW.v (ov_move rfl) ?_
      refine LW.v (ov_nilP rfl) ?_
      refine LW.v (ov_fieldAddr fo71_0 rfl) ?_
      refine LW.v (ov_loadF 1 ta4 rfl rfl rfl) ?_
      refine LW.nil ?_
      refine KW.thenN ?_
      refine CW.condF rfl rfl ?_
      refine CW.skip ?_
      refine KW.thenN ?_
      refine KW.dmOut 1 rfl hsk ?_
      rw [set_same hsk]
      exact KW.meet [0, 1, 2, 3, 4, 5] hMm ⟨rfl, rfl⟩ ⟨rfl, rfl, rfl, rfl, rfl, rfl, trivial⟩ rfl rfl
    | true =>
      refine CW.seq ?_
      refine CW.region ?_
      refine LW.v (ov_move rfl) ?_
      refine LW.v (ov_nilP rfl) ?_
      refine LW.v (ov_fieldAddr fo71_0 rfl) ?_
      refine LW.v (ov_loadF 1 ta4 rfl rfl rfl) ?_
      refine LW.nil ?_
      refine KW.thenN ?_
      refine CW.condT rfl rfl ?_
      refine CW.draw [1,4] rfl mixed rfl (ls := #[false, false, false, false, false, false, false, false, false]) (by kernel_rfl) ?_
      refine DW.tk 0 [1,4] rfl (ov_fieldAddr fo85_3 rfl) ?_
      refine DW.tk 1 [1,4] rfl (ov_loadR 1 ta3 rfl rfl rfl) ?_
      refine DW.tk 2 [1,4] rfl (ov_move rfl) ?_
      first | refine DW.tk 3 [1,4] rfl (ov_nilP rfl) ?_ | refine DW.tk 3 [1,4] rfl (ov_nilF rfl) ?_
      refine DW.tk 4 [1,4] rfl (ov_fieldAddr fo71_2 rfl) ?_
      refine DW.tk 5 [1,4] rfl (ov_loadF 0 ta3 rfl rfl rfl) ?_
      refine DW.all1 6 (by kernel_rfl) ?_
      refine DO.call [1,4] [] rfl (oc_fn cf30 rfl) rfl rfl rfl rfl (behind_ok f.count sc (by omega) (by omega)) (by rintro _ _ ⟨rfl, rfl⟩; exact ⟨rfl, rfl⟩) rfl ?_
      rintro _ _ ⟨rfl, rfl⟩
      simp only [putBack, List.append_nil]
      refine DW.tk 7 [1,4] rfl (ov_fieldAddr fo33_2 rfl) ?_
      refine DW.all1 8 (by kernel_rfl) ?_
      refine DO.opU [1,4] rfl (ou_storeW ta3 rfl rfl (.one rfl) rfl rfl (.t (.t (.h (.n)))) (.t (.t (.t (.t (.t (.h))))))) rfl rfl rfl rfl ?_
      refine DW.done (by kernel_rfl) ?_
      refine KW.thenN ?_
      refine KW.dmOut 1 rfl hsk ?_
      rw [set_same hsk]
      exact KW.meet [0, 1, 2, 3, 4, 5] hMm ⟨rfl, rfl⟩ ⟨rfl, rfl, rfl, rfl, rfl, rfl, trivial⟩ rfl rfl
  rintro _ _ ⟨rfl, rfl⟩
  refine CW.seq ?_
  refine CW.draw [4] rfl mixed rfl (ls := #[false, false, false, false, false, false, false, false, false, false]) (by kernel_rfl) ?_
  refine DW.tk 0 [4] rfl (ov_move rfl) ?_
  refine DW.tk 1 [4] rfl (ov_move rfl) ?_
  refine DW.tk 2 [4] rfl (ov_fieldAddr fo85_2 rfl) ?_
  refine DW.tk 3 [4] rfl (ov_loadR 0 ta3 rfl rfl rfl) ?_
  first | refine DW.tk 4 [4] rfl (ov_nilP rfl) ?_ | refine DW.tk 4 [4] rfl (ov_nilF rfl) ?_
  refine DW.tk 5 [4] rfl (ov_fieldAddr fo74_2 rfl) ?_
  refine DW.all1 6 (by kernel_rfl) ?_
  refine DO.opU [4] rfl (ou_storeW ta4 rfl rfl (.one rfl) rfl rfl (.t (.t (.h (.n)))) (.t (.h))) rfl rfl rfl rfl ?_
  first | refine DW.tk 7 [4] rfl (ov_nilP rfl) ?_ | refine DW.tk 7 [4] rfl (ov_nilF rfl) ?_
  refine DW.tk 8 [4] rfl (ov_fieldAddr fo74_3 rfl) ?_
  refine DW.all1 9 (by kernel_rfl) ?_
  refine DO.opU [4] rfl (ou_storeW ta3 rfl rfl (.one rfl) rfl rfl (.t (.t (.t (.h (.n))))) (.t (.h))) rfl rfl rfl rfl ?_
  refine DW.done (by kernel_rfl) ?_
  refine KW.thenN ?_
  refine CW.seq ?_
  refine KW.dmIn 1 rfl hsk ?_
  simp only [List.set_cons_succ, List.set_cons_zero]
  refine CW.draw [4] rfl mixed rfl (ls := #[false, false, false, false, false, false, false, false, false, false, false, false, false, false, false, false]) (by kernel_rfl) ?_
  refine DW.tk 0 [4] rfl (ov_move rfl) ?_
  refine DW.tk 1 [4] rfl (ov_move rfl) ?_
  refine DW.tk 2 [4] rfl (ov_move rfl) ?_
  refine DW.tk 3 [4] rfl (ov_move rfl) ?_
  refine DW.tk 5 [4] rfl (ov_fieldAddr fo85_3 rfl) ?_
  refine DW.tk 6 [4] rfl (ov_loadR 0 ta3 rfl rfl rfl) ?_
  refine DW.all1 4 (by kernel_rfl) ?_
  refine DO.call [4] [] rfl (oc_fn cf31 rfl) rfl rfl rfl rfl (Clone_ok (l := b) (by omega)) (by rintro _ _ ⟨rfl, rfl⟩; exact ⟨rfl, rfl⟩) rfl ?_
  rintro _ _ ⟨rfl, rfl⟩
  simp only [putBack, List.append_nil]
  first | refine DW.tk 7 [4] rfl (ov_nilP rfl) ?_ | refine DW.tk 7 [4] rfl (ov_nilF rfl) ?_
  refine DW.tk 8 [4] rfl (ov_fieldAddr fo71_0 rfl) ?_
  refine DW.all1 9 (by kernel_rfl) ?_
  refine DO.opU [4] rfl (ou_storeF ta4 rfl rfl (.one rfl) rfl rfl (.h (.n)) (.t (.h))) rfl rfl rfl rfl ?_
  first | refine DW.tk 10 [4] rfl (ov_nilP rfl) ?_ | refine DW.tk 10 [4] rfl (ov_nilF rfl) ?_
  refine DW.tk 11 [4] rfl (ov_fieldAddr fo71_1 rfl) ?_
  refine DW.all1 12 (by kernel_rfl) ?_
  refine DO.opU [4] rfl (ou_storeF ta9 rfl rfl (.one rfl) rfl rfl (.t (.h (.n))) (.t (.h))) rfl rfl rfl rfl ?_
  first | refine DW.tk 13 [4] rfl (ov_nilP rfl) ?_ | refine DW.tk 13 [4] rfl (ov_nilF rfl) ?_
  refine DW.tk 14 [4] rfl (ov_fieldAddr fo71_2 rfl) ?_
  refine DW.all1 15 (by kernel_rfl) ?_
  refine DO.opU [4] rfl (ou_storeF ta3 rfl rfl (.one rfl) rfl rfl (.t (.t (.h (.n)))) (.t (.h))) rfl rfl rfl rfl ?_
  refine DW.done (by kernel_rfl) ?_
  refine KW.thenN ?_
  refine CW.cut (fun env As => env = [(0, P1 d 0), (1, S b), (4, P1 b4 0), (6, P1 b6 0), (8, P1 b8 0), (9, P1 d (0 + 4 + k * 5))] ∧ As = [ex g0, dmF 74 d k (.int .i64 f.craft) (.int .i64 f.data.length) (.bool true) (.int .i64 f.master) L (snk1 s f b), pown none 0 a00, arow b4 none 0 a00, tfR b6 f, arow b8 none 0 (arr1 known master s f)]) (fun Mm hMm => ?_) ?_
  · obtain ⟨sk, sf, sc, sb, sp⟩ := s
    by_cases hlo : los ⟨sk, sf, sc, sb, sp⟩ f = 0
    · have e1 : snk1 ⟨sk, sf, sc, sb, sp⟩ f b = ⟨true, b, f.count, sb, sp⟩ := by rw [snk1, if_neg (fun q => q.1 hlo)]
      have e2 : arr1 known master ⟨sk, sf, sc, sb, sp⟩ f = ⟨f.chan, false, los ⟨sk, sf, sc, sb, sp⟩ f, mis known master f, [], 0, f.word⟩ := by rw [arr1, if_neg (fun q => q.1 hlo)]
      rw [e1, e2] at hMm
      have hlo2 : ¬(los ⟨sk, sf, sc, sb, sp⟩ f ≠ 0) := fun q => q hlo
      refine CW.seq ?_
      refine CW.region ?_
      refine LW.v (ov_fieldAddr fo33_2 rfl) ?_
      refine LW.v (ov_loadR 5 ta3 rfl rfl rfl) ?_
      refine LW.v (OpV.eq (ov_neq rfl rfl) (congrArg Value.bool (decide_eq_false (by first | omega | assumption)))) ?_
      refine LW.v (ov_move rfl) ?_
      refine LW.skip rfl rfl ?_
      refine LW.skip rfl rfl ?_
      refine LW.skip rfl rfl ?_
      refine LW.skip rfl rfl ?_
      first | refine LW.v (ov_pickT rfl rfl) ?_ | refine LW.v (ov_pickF rfl rfl) ?_ | refine LW.v (ov_pick rfl rfl rfl) ?_
      refine LW.nil ?_
      refine KW.thenN ?_
      refine CW.condF rfl rfl ?_
      refine CW.skip ?_
      refine KW.thenN ?_
      exact KW.meet [0, 1, 2, 3, 4, 5] hMm ⟨rfl, rfl⟩ ⟨rfl, rfl, rfl, rfl, rfl, rfl, trivial⟩ rfl rfl
    · cases sb with
      | false =>
        have e1 : snk1 ⟨sk, sf, sc, false, sp⟩ f b = ⟨true, b, f.count, false, sp⟩ := by rw [snk1, if_neg (by simp)]
        have e2 : arr1 known master ⟨sk, sf, sc, false, sp⟩ f = ⟨f.chan, false, los ⟨sk, sf, sc, false, sp⟩ f, mis known master f, [], 0, f.word⟩ := by rw [arr1, if_neg (by simp)]
        rw [e1, e2] at hMm
        refine CW.seq ?_
        refine CW.region ?_
        refine LW.v (ov_fieldAddr fo33_2 rfl) ?_
        refine LW.v (ov_loadR 5 ta3 rfl rfl rfl) ?_
        refine LW.v (OpV.eq (ov_neq rfl rfl) (congrArg Value.bool (decide_eq_true (by first | omega | assumption)))) ?_
        refine LW.v (ov_move rfl) ?_
        refine LW.v (ov_move rfl) ?_
        refine LW.v (ov_nilP rfl) ?_
        refine LW.v (ov_fieldAddr fo71_3 rfl) ?_
        refine LW.v (ov_loadF 1 ta4 rfl rfl rfl) ?_
        first | refine LW.v (ov_pickT rfl rfl) ?_ | refine LW.v (ov_pickF rfl rfl) ?_ | refine LW.v (ov_pick rfl rfl rfl) ?_
        refine LW.nil ?_
        refine KW.thenN ?_
        refine CW.condF rfl rfl ?_
        refine CW.skip ?_
        refine KW.thenN ?_
        exact KW.meet [0, 1, 2, 3, 4, 5] hMm ⟨rfl, rfl⟩ ⟨rfl, rfl, rfl, rfl, rfl, rfl, trivial⟩ rfl rfl
      | true =>
        have e1 : snk1 ⟨sk, sf, sc, true, sp⟩ f b = ⟨true, b, f.count, false, []⟩ := by rw [snk1, if_pos ⟨hlo, rfl⟩]
        have e2 : arr1 known master ⟨sk, sf, sc, true, sp⟩ f = ⟨f.chan, false, los ⟨sk, sf, sc, true, sp⟩ f, mis known master f, [], 1, f.word⟩ := by rw [arr1, if_pos ⟨hlo, rfl⟩]
        rw [e1, e2] at hMm
        refine CW.seq ?_
        refine CW.region ?_
        refine LW.v (ov_fieldAddr fo33_2 rfl) ?_
        refine LW.v (ov_loadR 5 ta3 rfl rfl rfl) ?_
        refine LW.v (OpV.eq (ov_neq rfl rfl) (congrArg Value.bool (decide_eq_true (by first | omega | assumption)))) ?_
        refine LW.v (ov_move rfl) ?_
        refine LW.v (ov_move rfl) ?_
        refine LW.v (ov_nilP rfl) ?_
        refine LW.v (ov_fieldAddr fo71_3 rfl) ?_
        refine LW.v (ov_loadF 1 ta4 rfl rfl rfl) ?_
        first | refine LW.v (ov_pickT rfl rfl) ?_ | refine LW.v (ov_pickF rfl rfl) ?_ | refine LW.v (ov_pick rfl rfl rfl) ?_
        refine LW.nil ?_
        refine KW.thenN ?_
        refine CW.condT rfl rfl ?_
        refine CW.seq ?_
        refine CW.region ?_
        refine LW.v (ov_move rfl) ?_
        refine LW.v (ov_move rfl) ?_
        refine LW.v (ov_nilP rfl) ?_
        refine LW.v (ov_fieldAddr fo71_3 rfl) ?_
        refine LW.opU (ou_storeF ta4 rfl rfl (.one rfl) rfl rfl (.t (.t (.t (.h (.n))))) (.t (.h))) rfl ?_
        refine LW.v (ov_nilP rfl) ?_
        refine LW.v (ov_fieldAddr fo71_4 rfl) ?_
        refine LW.opU (ou_storeF ta9 rfl rfl (.one rfl) rfl rfl (.t (.t (.t (.t (.h (.n)))))) (.t (.h))) rfl ?_
        refine LW.nil ?_
        refine KW.thenN ?_
        refine CW.region ?_
        refine LW.v (ov_fieldAddr fo33_5 rfl) ?_
        refine LW.v (ov_loadR 5 ta3 rfl rfl rfl) ?_
        first | refine LW.v (ov_add rfl rfl (by omega)) ?_ | refine LW.v (ov_addW rfl rfl) ?_
        refine LW.v (ov_fieldAddr fo33_5 rfl) ?_
        refine LW.opU (ou_storeW ta3 rfl rfl (.one rfl) rfl rfl (.t (.t (.t (.t (.t (.h (.n))))))) (.t (.t (.t (.t (.t (.h))))))) rfl ?_
        refine LW.nil ?_
        refine KW.thenN ?_
        exact KW.meet [0, 1, 2, 3, 4, 5] hMm ⟨rfl, rfl⟩ ⟨rfl, rfl, rfl, rfl, rfl, rfl, trivial⟩ rfl rfl
  rintro _ _ ⟨rfl, rfl⟩
  have hsp : (snk1 s f b).begun = true → (snk1 s f b).part.length ≤ 3000 := by
    unfold snk1; split
    · simp
    · exact hsm.2.2
  have hbk : 0 ≤ (arr1 known master s f).broken ∧ (arr1 known master s f).broken ≤ 1 := by
    unfold arr1; simp only; split <;> omega
  have hpk : (arr1 known master s f).pks = [] := rfl
  refine CW.seq ?_
  refine CW.seq ?_
  refine CW.region ?_
  refine LW.v (ov_fieldAddr fo85_4 rfl) ?_
  refine LW.v (ov_loadR 4 ta3 rfl rfl rfl) ?_
  refine LW.v (ov_neq rfl rfl) ?_
  refine LW.nil ?_
  refine KW.thenN ?_
  refine CW.condD (by rfl) (fun h2 => ?_) (fun h2 => ?_)
  · rw [if_pos h2] at hF
    subst hF
    refine KW.arrShut (a := arr1 known master s f) 5 2 rfl rfl (by decide) rfl ?_
    refine CW.region ?_
    refine LW.v (ov_move rfl) ?_
    refine LW.v (ov_loadAR 4 ta85 rfl rfl (.h (.h (.h (.h (.h (.h (.h (.n))))))))) ?_
    refine LW.call [1, 5] (oc_fn cf32 rfl) rfl rfl rfl rfl (take_ok (by omega) (by omega) (fun q => Nat.le_trans (hsp q) (by omega)) (by rw [hpk]; exact Nat.zero_le _) (by omega)) ?_
    rintro _ _ rfl
    simp only [putBack, List.set_cons_succ, List.set_cons_zero, List.append_nil]
    refine LW.nil ?_
    refine KW.thenN ?_
    refine KW.arrOpen 5 rfl (fun ad c => ?_)
    refine KW.dmOut 1 rfl hsk ?_
    simp only [List.set_cons_succ, List.set_cons_zero, List.cons_append, List.nil_append]
    refine CW.seq ?_
    refine CW.region ?_
    refine LW.v (ov_loadAR 5 ta33 rfl rfl (.h (.h (.h (.h (.h (.h (.h (.n))))))))) ?_
    refine LW.opU (ou_storeW ta33 rfl rfl .agg rfl rfl (.h (.h (.h (.h (.h (.h (.h (.n)))))))) (.t (.t (.t (.h))))) rfl ?_
    refine LW.v (ov_assign rfl) ?_
    refine LW.nil ?_
    refine KW.thenN ?_
    refine CW.ret ?_
    exact KW.retF (.cons (ResV.cellA 3 ta33 rfl rfl (.h (.h (.h (.h (.h (.h (.h (.n))))))))) (.cons (.tmp rfl) (.nil))) [1, 6] rfl rfl (⟨ad, c, rfl, rfl⟩)
  · rw [if_neg h2] at hF
    subst hF
    refine KW.dmOut 1 rfl hsk ?_
    refine CW.skip ?_
    refine KW.thenN ?_
    refine CW.seq ?_
    refine CW.region ?_
    refine LW.v (ov_loadAR 5 ta33 rfl rfl (.h (.h (.h (.h (.h (.h (.h (.n))))))))) ?_
    refine LW.opU (ou_storeW ta33 rfl rfl .agg rfl rfl (.h (.h (.h (.h (.h (.h (.h (.n)))))))) (.t (.t (.t (.h))))) rfl ?_
    refine LW.v (ov_assign rfl) ?_
    refine LW.nil ?_
    refine KW.thenN ?_
    refine CW.ret ?_
    exact KW.retF (.cons (ResV.cellA 3 ta33 rfl rfl (.h (.h (.h (.h (.h (.h (.h (.n))))))))) (.cons (.tmp rfl) (.nil))) [1, 2] rfl rfl (⟨none, 0, rfl, rfl⟩)
end Sx
end Go.Proofs.Ytdgphamhpjnmpaa

