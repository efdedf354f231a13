/- PacketLosses: the plain law: what the joiner knows while packets of messages are fed and lost. -/
import Derived.Test.YtkofbanncacamaaPkN
namespace Go.Proofs.Ytkofbanncacamaa
namespace Sx

theorem pieces_flatten {m : Nat} (hm : 0 < m) : ∀ (n : Nat) (l : List UInt8), l.length ≤ n → (pieces m l).flatten = l := by
  intro n; induction n with
  | zero =>
    intro l h
    have : l = [] := List.eq_nil_of_length_eq_zero (by omega)
    subst this; simp [pieces_nil]
  | succ n ih =>
    intro l h
    by_cases q : l = []
    · subst q; simp [pieces_nil]
    · have := List.length_pos_iff.2 q
      rw [pieces_cons hm q, List.flatten_cons, ih _ (by simp; omega), List.take_append_drop]
theorem pieces_each {m : Nat} (hm : 0 < m) : ∀ (n : Nat) (l : List UInt8), l.length ≤ n → ∀ s ∈ pieces m l, 1 ≤ s.length ∧ s.length ≤ m := by
  intro n; induction n with
  | zero =>
    intro l h s hs
    have : l = [] := List.eq_nil_of_length_eq_zero (by omega)
    subst this; simp [pieces_nil] at hs
  | succ n ih =>
    intro l h s hs
    by_cases q : l = []
    · subst q; simp [pieces_nil] at hs
    · have := List.length_pos_iff.2 q
      rw [pieces_cons hm q] at hs
      rcases List.mem_cons.1 hs with rfl | hs
      · simp; omega
      · exact ih _ (by simp; omega) s hs
theorem raws_get (cmd : Bool) (apid count : Int) : ∀ (W : List (List UInt8)) (j k : Nat), (raws cmd apid count j W)[k]? = (W[k]?).map fun s => ⟨cmd, apid, 0, (count + (j + k : Nat)) % 16384, s⟩ := by
  intro W; induction W with
  | nil => intro j k; simp [raws]
  | cons a r ih =>
    intro j k
    cases k with
    | zero => simp [raws]
    | succ k => simp only [raws, List.getElem?_cons_succ, ih]; rw [show j + 1 + k = j + (k + 1) from by omega]
theorem splitK_get {cmd : Bool} {apid count : Int} {most : Nat} {l : List UInt8} {k : Nat} {s : List UInt8} (hk : (pieces most l)[k]? = some s) :
    (splitK cmd apid count most l)[k]? = some ⟨cmd, apid, (if k = 0 then 1 else 0) + (if k + 1 = (pieces most l).length then 2 else 0), (count + k) % 16384, s⟩ := by
  have hlt := lt_of_get hk
  have h0 := raws_get cmd apid count (pieces most l) 0 k
  rw [hk] at h0
  simp only [Nat.zero_add, Option.map_some] at h0
  simp only [splitK, List.length_modify, raws_len]
  rw [List.getElem?_modify, List.getElem?_modify, h0]
  by_cases q : k = 0
  · subst q
    by_cases q2 : (0 : Nat) + 1 = (pieces most l).length
    · have : (pieces most l).length - 1 = 0 := by omega
      simp [setFl, ← q2]
    · have : ¬ ((pieces most l).length - 1 = 0) := by omega
      simp [setFl, this, q2]
  · by_cases q2 : k + 1 = (pieces most l).length
    · have : (pieces most l).length - 1 = k := by omega
      simp [setFl, q, this, q2, Ne.symm q]
    · have : ¬ ((pieces most l).length - 1 = k) := by omega
      simp [q, this, q2, Ne.symm q]
theorem splitK_len {cmd : Bool} {apid count : Int} {most : Nat} {l : List UInt8} : (splitK cmd apid count most l).length = (pieces most l).length := by
  simp [splitK, raws_len]

/-- the joiner of one APID -/
def stq (o : Option Kn) : List (Int × Kn) := match o with
  | none => []
  | some k => [(9, k)]
def txq (o : Option Kn) : Option (List UInt8) := (o.getD ⟨0, none⟩).txt
theorem look_stq (o : Option Kn) : look (stq o) 9 = o := by cases o <;> rfl
theorem put_stq (o : Option Kn) (k : Kn) : putk (stq o) 9 k = stq (some k) := by cases o <;> rfl
theorem feedJ_q {o : Option Kn} {p : Pk} (hp : p.ok) (ha : p.apid = 9) : feedJ (stq o) p = (((feedK o p).1, 0), stq (some (feedK o p).2)) := by
  rw [feedJ, if_neg (by simpa using hp), if_neg (by omega), ha, look_stq]
  show (((feedK o p).1, 0), putk (stq o) 9 (feedK o p).2) = _
  rw [put_stq]

/-- where the joiner stands -/
def At (o : Option Kn) (t wt : Nat) : Prop := match o with
  | none => True
  | some k => k.next = (16380 + ((t : Int) - wt)) % 16384
/-- what is known within a message W, at packet k -/
def Mid (W : List (List UInt8)) (k : Nat) (whole : Bool) (wt : Nat) (tx : Option (List UInt8)) : Prop :=
  (k = 0 → whole = true) ∧ (whole = true → 0 < k → k < W.length → wt = 0 ∧ tx = some (W.take k).flatten) ∧ (whole = false → k < W.length → 0 < wt ∨ tx = none)

theorem feed_step {W : List (List UInt8)} {k t wt : Nat} {whole : Bool} {o : Option Kn} {s : List UInt8} {p : Pk} (hk : W[k]? = some s) (hW : W.flatten.length ≤ 16384)
    (hp : p = ⟨true, 9, (if k = 0 then 1 else 0) + (if k + 1 = W.length then 2 else 0), (16380 + (t : Int)) % 16384, s⟩) (hat : At o t wt) (hwt : wt ≤ t) (ht : t ≤ 16000) (hm : Mid W k whole wt (txq o)) :
    (feedK o p).1.missed = (if o.isSome then (wt : Int) else 0) ∧ (feedK o p).1.whole = (decide (k + 1 = W.length) && whole) ∧ ((feedK o p).1.whole = true → (feedK o p).1.msg = W.flatten) ∧
    At (some (feedK o p).2) (t + 1) 0 ∧ Mid W (k + 1) whole 0 (feedK o p).2.txt := by
  obtain ⟨hm1, hm2, hm3⟩ := hm
  have hlt := lt_of_get hk
  have hmi : feedM o p = if o.isSome then (wt : Int) else 0 := by
    cases o with
    | none => rfl
    | some kn =>
      simp only [At] at hat
      simp only [feedM, hat, hp, Option.isSome_some, if_true]
      omega
  have hmiss : (feedK o p).1.missed = feedM o p := by
    simp only [feedK, feedF]
    split
    · rfl
    split
    · rfl
    split
    · rfl
    split
    · rfl
    split <;> rfl
  have hat2 : At (some (feedK o p).2) (t + 1) 0 := by
    simp only [At, feedK, hp]; omega
  refine ⟨hmiss.trans hmi, ?_⟩
  have hflat : (W.take (k + 1)).flatten = (W.take k).flatten ++ s := by
    rw [List.take_add_one, hk, List.flatten_append]; simp
  have hfl : k + 1 = W.length → W.flatten = (W.take k).flatten ++ s := by
    intro e; rw [← hflat, e, List.take_length]
  have hle : ((W.take k).flatten ++ s).length ≤ 16384 := by
    rw [← hflat]
    have : (W.take (k + 1)).flatten.length ≤ W.flatten.length := by
      have h := congrArg (fun l => (List.flatten l).length) (List.take_append_drop (k + 1) W)
      simp only [List.flatten_append, List.length_append] at h
      omega
    omega
  by_cases hk0 : k = 0
  · subst hk0
    have hw := hm1 rfl
    subst hw
    simp only [List.take_zero, List.flatten_nil, List.nil_append] at hfl hflat
    by_cases hn : 0 + 1 = W.length
    · -- the only one
      have hfl3 : p.flags = 3 := by rw [hp]; simp [← hn]
      have e1 : (feedK o p).1.whole = true := by simp only [feedK, feedF, hfl3]; rfl
      have e2 : (feedK o p).1.msg = s := by
        have : p.data = s := by rw [hp]
        rw [← this]; simp only [feedK, feedF, hfl3]; rfl
      refine ⟨by rw [e1]; simp [hn], fun _ => by rw [e2]; exact (hfl hn).symm, hat2, fun h => by omega, fun _ _ h => by omega, fun h => by cases h⟩
    · have hfl1 : p.flags = 1 := by rw [hp]; simp [hn]
      have e1 : (feedK o p).1.whole = false := by simp only [feedK, feedF, hfl1]; rfl
      have e2 : (feedK o p).2.txt = some s := by
        have : p.data = s := by rw [hp]
        rw [← this]; simp only [feedK, feedF, hfl1]; rfl
      refine ⟨by rw [e1]; simp [hn], fun h => (by rw [e1] at h; cases h), hat2, fun h => by omega, fun _ _ _ => ⟨rfl, by rw [e2, ← hflat]⟩, fun h => by cases h⟩
  · cases whole with
    | true =>
      obtain ⟨hw0, htx⟩ := hm2 rfl (by omega) hlt
      subst hw0
      have hm0 : feedM o p = 0 := by rw [hmi]; split <;> rfl
      have htx' : (o.getD ⟨0, none⟩).txt = some (W.take k).flatten := htx
      have hd : p.data = s := by rw [hp]
      by_cases hn : k + 1 = W.length
      · have hfl2 : p.flags = 2 := by rw [hp]; simp [hk0, hn]
        have hbr : feedB (some (W.take k).flatten) 0 p = false := by simp [feedB, hfl2]
        have hK : feedK o p = (⟨true, (W.take k).flatten ++ s, 0, false⟩, ⟨(p.count + 1) % 16384, none⟩) := by
          simp only [feedK, hm0, htx', hbr, feedF, hfl2, hd]
          rw [if_neg (by decide), if_neg (by decide)]
          simp only [Bool.false_eq_true, if_false]
          rw [if_pos ⟨trivial, by rw [List.length_append] at hle; omega⟩]
        rw [hK]
        exact ⟨by simp [hn], fun _ => (hfl hn).symm, by rw [hK] at hat2; exact hat2, fun h => by omega, fun _ _ h => by omega, fun h => by cases h⟩
      · have hfl0 : p.flags = 0 := by rw [hp]; simp [hk0, hn]
        have hbr : feedB (some (W.take k).flatten) 0 p = false := by simp [feedB, hfl0]
        have hK : feedK o p = (⟨false, [], 0, false⟩, ⟨(p.count + 1) % 16384, some ((W.take k).flatten ++ s)⟩) := by
          simp only [feedK, hm0, htx', hbr, feedF, hfl0, hd]
          rw [if_neg (by decide), if_neg (by decide)]
          simp only [Bool.false_eq_true, if_false]
          rw [if_neg (by omega), if_neg (by rw [List.length_append] at hle; omega)]
        rw [hK]
        exact ⟨by simp [hn], fun h => (by cases h), by rw [hK] at hat2; exact hat2, fun h => by omega, fun _ _ _ => ⟨rfl, by rw [hflat]⟩, fun h => by cases h⟩
    | false =>
      have h3 := hm3 rfl hlt
      have hfl02 : p.flags = 0 ∨ p.flags = 2 := by
        rw [hp]; by_cases hn : k + 1 = W.length
        · right; simp [hk0, hn]
        · left; simp [hk0, hn]
      have ht1 : (if feedB (o.getD ⟨0, none⟩).txt (feedM o p) p then none else (o.getD ⟨0, none⟩).txt) = none := by
        by_cases q : txq o = none
        · have q' : (o.getD ⟨0, none⟩).txt = none := q
          rw [q']; split <;> rfl
        · have hw : 0 < wt := h3.resolve_right q
          have ho : o.isSome = true := by
            cases o with
            | none => exact absurd rfl q
            | some _ => rfl
          have hmn : feedM o p ≠ 0 := by rw [hmi, ho]; simp; omega
          have hbs : (o.getD ⟨0, none⟩).txt.isSome = true := by
            cases e : (o.getD ⟨0, none⟩).txt with
            | none => exact absurd e q
            | some _ => rfl
          rw [if_pos (by simp [feedB, hbs, hmn])]
      have hK : (feedK o p).1.whole = false ∧ (feedK o p).2.txt = none := by
        simp only [feedK, ht1, feedF]
        rw [if_neg (by omega), if_neg (by omega)]
        exact ⟨rfl, rfl⟩
      refine ⟨by rw [hK.1]; simp, fun h => (by rw [hK.1] at h; cases h), hat2, fun h => by omega, fun h => (by cases h), fun _ _ => .inr hK.2⟩
theorem lost_step {W : List (List UInt8)} {k wt : Nat} {tx : Option (List UInt8)} : Mid W (k + 1) false (wt + 1) tx :=
  ⟨fun h => by omega, fun h => (by cases h), fun _ _ => .inl (by omega)⟩
theorem mid0 {W : List (List UInt8)} {wt : Nat} {tx : Option (List UInt8)} : Mid W 0 true wt tx := ⟨fun _ => rfl, fun _ h => by omega, fun h => by cases h⟩
/-- the bytes of messages -/
def tot (M : List (List UInt8)) : Nat := (M.map List.length).sum
theorem longB_tot : ∀ (M : List (List UInt8)) (r : Int), longB r M = false → (tot M : Int) ≤ (if M = [] then 0 else r) := by
  intro M; induction M with
  | nil => intro r _; simp [tot]
  | cons m t ih =>
    intro r h
    simp only [longB] at h
    split at h
    · cases h
    · have := ih _ h
      simp only [tot, List.map_cons, List.sum_cons] at this ⊢
      rw [if_neg (by simp)]
      split at this <;> push_cast at this ⊢ <;> omega
theorem tot_drop {M : List (List UInt8)} {i : Nat} (h : i < M.length) : tot (M.drop i) = M[i].length + tot (M.drop (i + 1)) := by
  unfold tot; rw [List.drop_eq_getElem_cons h, List.map_cons, List.sum_cons]
end Sx
end Go.Proofs.Ytkofbanncacamaa
