/- Maps with integer keys; pointers and maps against nil; more operations. -/
import Derived.Test.YtkofbanncacamaaSxD
import Derived.Laws.Build
import Derived.Laws.BytesString
namespace Go.Proofs.Ytkofbanncacamaa
namespace Sx

def mlook : List (Int × Value) → Int → Option Value
  | [], _ => none
  | (a, v) :: r, k => if a = k then some v else mlook r k
def mset : List (Int × Value) → Int → Value → List (Int × Value)
  | [], k, v => [(k, v)]
  | (a, u) :: r, k, v => if a = k then (a, v) :: r else (a, u) :: mset r k v
theorem mset_none {k : Int} (v : Value) : ∀ (m : List (Int × Value)), mlook m k = none → mset m k v = m ++ [(k, v)] := by
  intro m; induction m with
  | nil => intro _; rfl
  | cons p r ih =>
    intro h
    obtain ⟨a, u⟩ := p
    simp only [mlook] at h
    by_cases e : a = k
    · simp [e] at h
    · simp only [mset, if_neg e, List.cons_append]; rw [ih (by simpa [e] using h)]
def kvs (es : List MapEntry) : List (Value × Value) := es.map fun e => (e.key, e.val)
def mkv (m : List (Int × Value)) : List (Value × Value) := m.map fun p => (Value.int .i64 p.1, p.2)
def mapI (b : Nat) (m : List (Int × Value)) : HP := fun h => ∃ (es : List MapEntry) (clock : Nat), kvs es = mkv m ∧ (es.map (·.born)).Pairwise (· ≠ ·) ∧ (∀ e ∈ es, e.born < clock) ∧ h = one b (.map es.toArray clock)

theorem Sat.mapGet {w : World} {As : List HP} (h : Sat w As) (i : Nat) {b : Nat} {m : List (Int × Value)} (hi : As[i]? = some (mapI b m)) :
    ∃ (es : List MapEntry) (clock : Nat), kvs es = mkv m ∧ (es.map (·.born)).Pairwise (· ≠ ·) ∧ (∀ e ∈ es, e.born < clock) ∧ w.heap[b]? = some (.map es.toArray clock) ∧ Sat w (As.set i (pts b (.map es.toArray clock))) := by
  obtain ⟨g, ⟨es, clock, h1, h2, h3, h4⟩, hs⟩ := h.take i hi
  have hset : (As.set i (ex g))[i]? = some (ex g) := by rw [List.getElem?_set_self (lt_of_get hi)]
  have hs2 := hs.imp i (B := pts b (.map es.toArray clock)) hset (fun g' e => by rw [show g' = g from e]; exact h4)
  rw [List.set_set] at hs2
  exact ⟨es, clock, h1, h2, h3, hs2.get i (by rw [List.getElem?_set_self (lt_of_get hi)]), hs2⟩

theorem findNow_int (k : Int) : ∀ (es : List MapEntry) (m : List (Int × Value)) (n : Nat), kvs es = mkv m →
    ∃ r, Instr.findNow (.int .i64) (.int .i64 k) es n = some r ∧ r.map (·.2) = mlook m k ∧ ∀ j v, r = some (j, v) → n ≤ j ∧ ∃ e, es[j - n]? = some e ∧ e.key = .int .i64 k ∧
      ∀ u, kvs (es.modify (j - n) fun e => { e with val := u }) = mkv (mset m k u) := by
  intro es; induction es with
  | nil => intro m n h; cases m with
    | nil => exact ⟨none, rfl, rfl, fun j v e => by cases e⟩
    | cons p r => simp [kvs, mkv] at h
  | cons e es ih =>
    intro m n h
    cases m with
    | nil => simp [kvs, mkv] at h
    | cons p r =>
      obtain ⟨a, v⟩ := p
      simp only [kvs, mkv, List.map_cons, List.cons.injEq, Prod.mk.injEq] at h
      obtain ⟨⟨h1, h2⟩, h3⟩ := h
      by_cases hk : a = k
      · subst hk
        refine ⟨some (n, e.val), ?_, ?_, ?_⟩
        · simp [Instr.findNow, Instr.sameNow, h1]
        · simp [mlook, h2]
        · intro j v' e'
          simp only [Option.some.injEq, Prod.mk.injEq] at e'
          obtain ⟨rfl, rfl⟩ := e'
          refine ⟨Nat.le_refl _, e, by simp, h1, fun u => ?_⟩
          simp [mset, kvs, mkv, h1]
          simpa [kvs, mkv] using h3
      · obtain ⟨r', g1, g2, g3⟩ := ih r (n + 1) h3
        refine ⟨r', ?_, ?_, ?_⟩
        · have : (k == a) = false := by simpa using Ne.symm hk
          simp [Instr.findNow, Instr.sameNow, h1, this, g1]
        · simp [mlook, hk, g2]
        · intro j v' e'
          obtain ⟨q1, e2, q2, q3, q4⟩ := g3 j v' e'
          refine ⟨by omega, e2, ?_, q3, fun u => ?_⟩
          · rw [show j - n = (j - (n + 1)) + 1 from by omega]; simpa using q2
          · rw [show j - n = (j - (n + 1)) + 1 from by omega]
            have := q4 u
            simp only [kvs, mkv] at this ⊢
            simp [mset, hk, h1, h2, this]

section
variable {C : Cx} {ds : List Deferred} {env : Env} {As : List HP} {d : Option Tmp} {ty : TypeId} {pos : String} {af : Array Edge} {gd : Option (Nat × Bool)} {t t' kt et : TypeId} {x y z : Operand} {b : Nat} {k : Int} {m : List (Int × Value)}

theorem run_checkKey {P : Program} {w : World} {kt : TypeId} {kk : IntKind} {k : Int} (h : P.underlying kt = some (.int kk)) (e : Bool) : (Instr.checkKey e 10000 kt (.int .i64 k)).run P w = .ok () w := by
  unfold Instr.checkKey
  simp [run_underlying h]
theorem ov_lookOk (i : Nat) {zv : Value} {r : Option Value} (hu : C.P.underlying t = some (.map kt et)) (hk : C.P.underlying kt = some (.int .i64)) (hz : zeroOf C.P et = some zv) (hx : evo env x = some (.map (some b))) (hy : evo env y = some (.int .i64 k))
    (hi : As[i]? = some (mapI b m)) (hl : mlook m k = r) : OpV C ds env As ⟨d, .lookup t x y true, ty, pos, af, gd⟩ (.tuple #[r.getD zv, .bool r.isSome]) := fun a w ha hs => by
  obtain ⟨es, clock, h1, h2, h3, h4, _⟩ := hs.mapGet i hi
  obtain ⟨q, g1, g2, g3⟩ := findNow_int k es m 0 h1
  have hg : (getObj b).run C.P w = .ok (.map es.toArray clock) w := by simp [getObj, Sem.run, h4]
  simp only [execOp, ha.eval hx, ha.eval hy, Instr.lookup, Sem.run_bind, run_underlying hu, Result.andThen_ok, hg, Sem.run_pure, run_checkKey hk, Instr.findKey, run_underlying hk, g1]
  rw [← hl, ← g2]
  cases q with
  | none => simp [zeroOf_spec hz]
  | some p => obtain ⟨j, v⟩ := p; simp
theorem ov_lookOk' (i : Nat) {zv u : Value} {ok : Bool} (hu : C.P.underlying t = some (.map kt et)) (hk : C.P.underlying kt = some (.int .i64)) (hz : zeroOf C.P et = some zv) (hx : evo env x = some (.map (some b))) (hy : evo env y = some (.int .i64 k))
    (hi : As[i]? = some (mapI b m)) (hv : (mlook m k).getD zv = u) (hb : (mlook m k).isSome = ok) : OpV C ds env As ⟨d, .lookup t x y true, ty, pos, af, gd⟩ (.tuple #[u, .bool ok]) := by
  subst hv; subst hb; exact ov_lookOk i hu hk hz hx hy hi rfl
theorem ov_look (i : Nat) {zv : Value} {r : Option Value} (hu : C.P.underlying t = some (.map kt et)) (hk : C.P.underlying kt = some (.int .i64)) (hz : zeroOf C.P et = some zv) (hx : evo env x = some (.map (some b))) (hy : evo env y = some (.int .i64 k))
    (hi : As[i]? = some (mapI b m)) (hl : mlook m k = r) : OpV C ds env As ⟨d, .lookup t x y false, ty, pos, af, gd⟩ (r.getD zv) := fun a w ha hs => by
  obtain ⟨es, clock, h1, h2, h3, h4, _⟩ := hs.mapGet i hi
  obtain ⟨q, g1, g2, g3⟩ := findNow_int k es m 0 h1
  have hg : (getObj b).run C.P w = .ok (.map es.toArray clock) w := by simp [getObj, Sem.run, h4]
  simp only [execOp, ha.eval hx, ha.eval hy, Instr.lookup, Sem.run_bind, run_underlying hu, Result.andThen_ok, hg, Sem.run_pure, run_checkKey hk, Instr.findKey, run_underlying hk, g1]
  rw [← hl, ← g2]
  cases q with
  | none => simp [zeroOf_spec hz]
  | some p => obtain ⟨j, v⟩ := p; simp

theorem ou_mapSet {v : Value} {As' : List HP} (hu : C.P.underlying t = some (.map kt et)) (hk : C.P.underlying kt = some (.int .i64)) (hx : evo env x = some (.map (some b))) (hy : evo env y = some (.int .i64 k)) (hz : evo env z = some v)
    (hi : Rep As (mapI b m) (mapI b (mset m k v)) As') : OpU C ds env As ⟨d, .mapUpdate t x y z, ty, pos, af, gd⟩ undef As' := fun a w ha hs => by
  obtain ⟨i, hi1, hi2⟩ := hi.spec
  have hli := lt_of_get hi1
  obtain ⟨es, clock, h1, h2, h3, h4, h5⟩ := hs.mapGet i hi1
  obtain ⟨q, g1, g2, g3⟩ := findNow_int k es m 0 h1
  have hg : (getObj b).run C.P w = .ok (.map es.toArray clock) w := by simp [getObj, Sem.run, h4]
  have hbl : b < w.heap.size := (Array.getElem?_eq_some_iff.1 h4).1
  have hset : ∀ o : Obj, (setObj b o).run C.P w = .ok () { w with heap := w.heap.setIfInBounds b o } := by
    intro o; simp [setObj, Sem.run, h4]
  have fin : ∀ (es' : List MapEntry) (clock' : Nat), kvs es' = mkv (mset m k v) → (es'.map (·.born)).Pairwise (· ≠ ·) → (∀ e ∈ es', e.born < clock') →
      Sat { w with heap := w.heap.setIfInBounds b (.map es'.toArray clock') } As' := by
    intro es' clock' q1 q2 q3
    have h6 := h5.setHeap (w' := { w with heap := w.heap.setIfInBounds b (.map es'.toArray clock') }) i (by rw [List.getElem?_set_self hli]) (o' := .map es'.toArray clock')
      (by simp [hbl]) (fun j hj => by simp [Array.getElem?_setIfInBounds_ne (Ne.symm hj)])
    rw [List.set_set] at h6
    have h7 := h6.imp i (A := pts b (.map es'.toArray clock')) (B := mapI b (mset m k v)) (by rw [List.getElem?_set_self hli]) (fun g e => ⟨es', clock', q1, q2, q3, e⟩)
    rw [List.set_set, hi2] at h7; exact h7
  cases q with
  | none =>
    have hml : mlook m k = none := by rw [← g2]; rfl
    have happ := mset_none v m hml
    refine ⟨_, _, _, ⟨rfl, rfl⟩, .inr ⟨?_, rfl⟩, fin (es ++ [{ key := .int .i64 k, val := v, born := clock }]) (clock + 1) ?_ ?_ ?_, ⟨rfl, rfl, rfl⟩⟩
    · simp only [execOp, ha.eval hx, ha.eval hy, ha.eval hz, Instr.mapUpdate, Sem.run_bind, run_underlying hu, Result.andThen_ok, hg, Sem.run_pure, run_checkKey hk, Instr.findKey, run_underlying hk, g1, hset]
      simp
    · rw [happ]; simp only [kvs, mkv, List.map_append] at h1 ⊢; rw [h1]; simp
    · rw [List.map_append, List.pairwise_append]
      refine ⟨h2, by simp, ?_⟩
      intro p hp q hq
      simp only [List.mem_map] at hp
      obtain ⟨e, he, rfl⟩ := hp
      simp at hq; subst hq
      have := h3 e he; omega
    · intro e he
      simp only [List.mem_append, List.mem_singleton] at he
      rcases he with he | rfl
      · have := h3 e he; omega
      · simp
  | some p =>
    obtain ⟨j, u⟩ := p
    obtain ⟨_, e, q1, q2, q3⟩ := g3 j u rfl
    simp only [Nat.sub_zero] at q1 q3
    have hmod : es.modify j (fun e => { e with key := .int .i64 k, val := v }) = es.modify j fun e => { e with val := v } := by
      apply List.ext_getElem?
      intro n
      simp only [List.getElem?_modify]
      by_cases hn : j = n
      · subst hn; simp [q1, ← q2]
      · simp [hn]
    have hborn : (es.modify j fun e => { e with val := v }).map (·.born) = es.map (·.born) := by
      apply List.ext_getElem?
      intro n
      simp only [List.getElem?_map, List.getElem?_modify]
      by_cases hn : j = n
      · subst hn; simp [q1]
      · simp [hn]
    refine ⟨_, _, _, ⟨rfl, rfl⟩, .inr ⟨?_, rfl⟩, fin (es.modify j fun e => { e with val := v }) clock (q3 v) (by rw [hborn]; exact h2) ?_, ⟨rfl, rfl, rfl⟩⟩
    · have hst : (Instr.keyThatStays (((es.toArray[j]?).map (·.key)).getD (.int .i64 k)) (.int .i64 k)).run C.P w = .ok (.int .i64 k) w := by
        simp [q1, q2, Instr.keyThatStays, Instr.sameBits]
      simp only [execOp, ha.eval hx, ha.eval hy, ha.eval hz, Instr.mapUpdate, Sem.run_bind, run_underlying hu, Result.andThen_ok, hg, Sem.run_pure, run_checkKey hk, Instr.findKey, run_underlying hk, g1, hst, hset]
      rw [← hmod]; simp
    · intro e' he'
      have : e'.born ∈ (es.modify j fun e => { e with val := v }).map (·.born) := List.mem_map.2 ⟨e', he', rfl⟩
      rw [hborn, List.mem_map] at this
      obtain ⟨e2, he2, h9⟩ := this
      rw [← h9]; exact h3 e2 he2

theorem ob_makeMap {As' : Nat → List HP} (hA : ∀ b, App As (mapI b []) (As' b)) : OpBA C ds env As ⟨d, .makeMap t none, ty, pos, af, gd⟩ (fun b => .map (some b)) As' := fun a w ha hs => by
  refine ⟨_, _, { w with heap := w.heap.push (.map #[] 0) }, ⟨w.heap.size, rfl, rfl⟩, .inl ?_, ?_, ⟨rfl, rfl, rfl⟩⟩
  · simp [execOp, Instr.makeMap]
  · rw [← (hA _).spec]
    have h5 := (hs.push (w' := { w with heap := w.heap.push (.map #[] 0) }) (pushNew w _) (pushOld w _)).imp As.length (A := pts w.heap.size (.map #[] 0)) (B := mapI w.heap.size []) (by simp) (fun g hg => ⟨[], 0, rfl, by simp, by simp, hg⟩)
    simpa using h5

/-! ### Ranging over a map that stands still -/
/-- the map at b and an iterator at ib: left: what is still to come; cur: the last one met -/
def iterA (b ib : Nat) (m : List (Int × Value)) (left : List (Int × Value)) (cur : Option (Int × Value)) : HP := fun h => ∃ (es : List MapEntry) (clock : Nat) (seen : List Nat), kvs es = mkv m ∧ (es.map (·.born)).Pairwise (· ≠ ·) ∧ (∀ e ∈ es, e.born < clock) ∧
  kvs (es.filter fun e => !seen.contains e.born) = mkv left ∧ (∀ p, cur = some p → ∃ e, seen.getLast? = some e ∧ ∃ x ∈ es, x.born = e ∧ x.key = .int .i64 p.1 ∧ x.val = p.2) ∧ b ≠ ib ∧
  h = fun k => if k = b then some (.map es.toArray clock) else if k = ib then some (.mapIter (some b) clock seen.toArray clock) else none
theorem Sat.shrink {w : World} {As : List HP} (h : Sat w As) (i : Nat) {A B : HP} (hi : As[i]? = some A) (hab : ∀ g, A g → ∃ g' : Hl, B g' ∧ ∀ k o, g' k = some o → g k = some o) : Sat w (As.set i B) :=
  h.replace fun H al => by
    obtain ⟨g', h1, h2⟩ := hab _ (al.ok i A hi)
    refine ⟨g', h1, fun j hj hji k => ?_, fun k o hk => al.inn i (lt_of_get hi) k o (h2 k o hk), fun j hj _ => al.inn j hj⟩
    cases e : g' k with
    | none => exact .inl rfl
    | some o =>
      rcases al.dj i j (lt_of_get hi) hj (Ne.symm hji) k with q | q
      · rw [h2 k o e] at q; cases q
      · exact .inr q
theorem iter_back {ib : Nat} {left : List (Int × Value)} {cur : Option (Int × Value)} : ∀ g, iterA b ib m left cur g → ∃ g' : Hl, mapI b m g' ∧ ∀ k o, g' k = some o → g k = some o := by
  rintro g ⟨es, clock, seen, h1, h2, h3, h4, h5, h6, rfl⟩
  refine ⟨one b (.map es.toArray clock), ⟨es, clock, h1, h2, h3, rfl⟩, fun k o hk => ?_⟩
  obtain ⟨rfl, rfl⟩ := one_some hk; simp

theorem ob_range (i : Nat) {As' : Nat → List HP} (hu : C.P.underlying t = some (.map kt et)) (hx : evo env x = some (.map (some b))) (hi : ∀ ib, Rep As (mapI b m) (iterA b ib m m none) (As' ib)) :
    OpBA C ds env As ⟨d, .range t x, ty, pos, af, gd⟩ (fun ib => .pointer (some ⟨ib, 0, none⟩)) As' := fun a w ha hs => by
  obtain ⟨i, hi1, hi2⟩ := (hi w.heap.size).spec
  have hli := lt_of_get hi1
  obtain ⟨es, clock, h1, h2, h3, h4, h5⟩ := hs.mapGet i hi1
  have hg : (getObj b).run C.P w = .ok (.map es.toArray clock) w := by simp [getObj, Sem.run, h4]
  have hbl : b < w.heap.size := (Array.getElem?_eq_some_iff.1 h4).1
  refine ⟨_, _, { w with heap := w.heap.push (.mapIter (some b) clock #[] clock) }, ⟨w.heap.size, rfl, rfl⟩, .inl ?_, ?_, ⟨rfl, rfl, rfl⟩⟩
  · simp [execOp, ha.eval hx, Instr.range, run_underlying hu, hg]
  · rw [← hi2]
    refine hs.replace fun H al => ?_
    obtain ⟨es0, clock0, _, _, _, hH⟩ := al.ok i _ hi1
    have hb0 := al.inn i hli b (.map es0.toArray clock0) (by rw [hH]; exact one_self _ _)
    rw [h4] at hb0
    have heq : Obj.map es0.toArray clock0 = .map es.toArray clock := by simpa using hb0.symm
    rw [heq] at hH
    let g : Hl := fun k => if k = b then some (.map es.toArray clock) else if k = w.heap.size then some (.mapIter (some b) clock #[] clock) else none
    refine ⟨g, ⟨es, clock, [], h1, h2, h3, by rw [List.filter_eq_self.2 (by simp)]; exact h1, by simp, by omega, rfl⟩, fun j hj hji k => ?_, fun k o hk => ?_, fun j hj hji k o hk => ?_⟩
    · by_cases e1 : k = b
      · subst e1
        have := al.dj i j hli hj (Ne.symm hji) k
        rw [hH, one_self] at this
        exact .inr (this.resolve_left (by simp))
      · by_cases e2 : k = w.heap.size
        · right
          cases e : H j k with
          | none => rfl
          | some o => have := al.lt hj e; omega
        · left; simp [g, e1, e2]
    · simp only [g] at hk
      by_cases e1 : k = b
      · subst e1; simp at hk; subst hk
        exact (pushOld w _ k hbl).trans h4
      · by_cases e2 : k = w.heap.size
        · subst e2
          rw [if_neg e1, if_pos rfl] at hk
          simp only [Option.some.injEq] at hk; subst hk
          exact pushNew w _
        · simp [e1, e2] at hk
    · exact (pushOld w _ k (al.lt hj hk)).trans (al.inn j hj k o hk)

theorem find_born {s : Nat} {e : MapEntry} : ∀ (es : List MapEntry), (es.map (·.born)).Pairwise (· ≠ ·) → e ∈ es → e.born = s → es.find? (fun x => x.born == s) = some e := by
  intro es; induction es with
  | nil => intro _ h; cases h
  | cons x r ih =>
    intro h hm hs
    simp only [List.map_cons, List.pairwise_cons] at h
    rw [List.find?_cons]
    rcases List.mem_cons.1 hm with rfl | hm'
    · simp [hs]
    · have : x.born ≠ s := by
        rw [← hs]; exact h.1 e.born (List.mem_map.2 ⟨e, hm', rfl⟩)
      simp only [beq_eq_false_iff_ne.2 this]
      exact ih h.2 hm' hs
theorem kvs_split {es : List MapEntry} {l : List (Int × Value)} (h : kvs es = mkv l) {n : Nat} {e : MapEntry} (hn : es[n]? = some e) : ∃ l1 p l2, l = l1 ++ p :: l2 ∧ l1.length = n ∧ e.key = .int .i64 p.1 ∧ e.val = p.2 ∧ kvs (es.eraseIdx n) = mkv (l1 ++ l2) := by
  have hlen : es.length = l.length := by have := congrArg List.length h; simpa [kvs, mkv] using this
  have hnl : n < l.length := by have := lt_of_get hn; omega
  refine ⟨l.take n, l[n], l.drop (n + 1), by simp, by simp; omega, ?_, ?_, ?_⟩
  · have := congrArg (·[n]?) h
    simp [kvs, mkv, hn, List.getElem?_eq_getElem hnl] at this
    exact this.1
  · have := congrArg (·[n]?) h
    simp [kvs, mkv, hn, List.getElem?_eq_getElem hnl] at this
    exact this.2
  · have h1 : ∀ {α β : Type} (f : α → β) (l : List α) (n : Nat), (l.eraseIdx n).map f = (l.map f).eraseIdx n := by
      intro α β f l; induction l with
      | nil => intro n; rfl
      | cons x r ih => intro n; cases n with
        | zero => rfl
        | succ n => simp [ih]
    have h2 : l.take n ++ l.drop (n + 1) = l.eraseIdx n := (List.eraseIdx_eq_take_drop_succ l n).symm
    rw [h2]
    simp only [kvs, mkv] at h ⊢
    rw [h1, h1, h]

theorem filter_erase : ∀ (l : List MapEntry) (n : Nat) (e : MapEntry), l[n]? = some e → (l.map (·.born)).Pairwise (· ≠ ·) → (l.filter fun x => !(x.born == e.born)) = l.eraseIdx n := by
  intro l; induction l with
  | nil => intro n e h; simp at h
  | cons x r ih =>
    intro n e h hp
    simp only [List.map_cons, List.pairwise_cons] at hp
    cases n with
    | zero =>
      simp at h; subst h
      simp only [List.eraseIdx_cons_zero, List.filter_cons, beq_self_eq_true, Bool.not_true, Bool.false_eq_true, if_false]
      rw [List.filter_eq_self]
      intro e he
      have := hp.1 e.born (List.mem_map.2 ⟨e, he, rfl⟩)
      simpa using Ne.symm this
    | succ n =>
      simp at h
      have : x.born ≠ e.born := hp.1 _ (List.mem_map.2 ⟨_, List.mem_of_getElem? h, rfl⟩)
      simp only [List.filter_cons, beq_eq_false_iff_ne.2 this, Bool.not_false, if_true, List.eraseIdx_cons_succ]
      rw [ih n e h hp.2]

theorem or_next (i : Nat) {ib : Nat} {left : List (Int × Value)} {cur : Option (Int × Value)} (hx : evo env x = some (.pointer (some ⟨ib, 0, none⟩))) (hi : As[i]? = some (iterA b ib m left cur)) :
    OpR C ds env As ⟨d, .next x false, ty, pos, af, gd⟩ (fun v As' => (left = [] ∧ v = .tuple #[.bool false] ∧ As' = As.set i (mapI b m)) ∨
      (∃ l1 p l2, left = l1 ++ p :: l2 ∧ v = .tuple #[.bool true, .int .i64 p.1, p.2] ∧ As' = As.set i (iterA b ib m (l1 ++ l2) (some p)))) := fun a w ha hs => by
  obtain ⟨g, ⟨es, clock, seen, h1, h2, h3, h4, h5, h6, hg⟩, hs2⟩ := hs.take i hi
  have hli := lt_of_get hi
  have hget : (As.set i (ex g))[i]? = some (ex g) := by rw [List.getElem?_set_self hli]
  have hb : w.heap[b]? = some (.map es.toArray clock) := hs2.getEx i hget (by rw [hg]; simp)
  have hit : w.heap[ib]? = some (.mapIter (some b) clock seen.toArray clock) := hs2.getEx i hget (by rw [hg]; simp [Ne.symm h6])
  have hg1 : (getObj ib).run C.P w = .ok (.mapIter (some b) clock seen.toArray clock) w := by simp [getObj, Sem.run, hit]
  have hg2 : (getObj b).run C.P w = .ok (.map es.toArray clock) w := by simp [getObj, Sem.run, hb]
  have hall : ((!seen.toArray.isEmpty && !es.toArray.isEmpty) && es.toArray.all (fun e => decide (e.born ≥ clock))) = false := by
    cases es with
    | nil => simp
    | cons e r => have := h3 e (by simp); simp; intro _; omega
  let lf := es.filter fun e => !seen.contains e.born
  have hlf : (es.toArray.filter fun e => !seen.toArray.contains e.born) = lf.toArray := by simp [lf]
  have hold : (lf.toArray.filter fun e => decide (e.born < clock)) = lf.toArray := by
    simp only [List.filter_toArray]
    congr 1
    rw [List.filter_eq_self]
    intro e he
    have := h3 e (List.mem_filter.1 he).1
    simpa using this
  have hnew : (lf.toArray.filter fun e => decide (e.born ≥ clock)) = #[] := by
    simp only [List.filter_toArray]
    congr 1
    rw [List.filter_eq_nil_iff]
    intro e he
    have := h3 e (List.mem_filter.1 he).1
    simp; omega
  by_cases hle : left = []
  · subst hle
    have hlf0 : lf = [] := by
      have := congrArg List.length h4
      simp only [kvs, mkv, List.length_map, List.length_nil] at this
      exact List.eq_nil_of_length_eq_zero this
    refine ⟨_, _, w, .inl ⟨rfl, rfl, rfl⟩, .inl ?_, hs.shrink i hi iter_back, Same.refl w⟩
    simp only [execOp, ha.eval hx, Instr.next, Sem.run_bind, hg1, Result.andThen_ok, hg2, hall, Bool.false_eq_true, if_false, hlf, hold, hnew, hlf0]
    simp [Question.forced]
  · have hlf1 : lf ≠ [] := by
      intro e; apply hle
      have := congrArg List.length h4
      simp only [kvs, mkv, List.length_map] at this
      change lf.length = _ at this
      rw [e] at this; exact List.eq_nil_of_length_eq_zero this.symm
    have hlpos := List.length_pos_iff.2 hlf1
    obtain ⟨n, hn, w1, hch, hw1⟩ : ∃ n, n < lf.length ∧ ∃ w1, (choose (.mapNext lf.length)).run C.P w = .ok n w1 ∧ (w1 = w ∨ w1 = { w with drawn := w.drawn + 1 }) := by
      rw [run_choose]
      by_cases hf : (Question.mapNext lf.length).forced = true
      · rw [if_pos hf]; exact ⟨0, hlpos, w, rfl, .inl rfl⟩
      · rw [if_neg hf]; exact ⟨_, Nat.mod_lt _ hlpos, _, rfl, .inr rfl⟩
    have hh1 : w1.heap = w.heap := by rcases hw1 with rfl | rfl <;> rfl
    have hsame1 : Same w w1 := by rcases hw1 with rfl | rfl <;> exact ⟨rfl, rfl, rfl⟩
    have hne := List.getElem?_eq_getElem hn
    obtain ⟨l1, p, l2, e1, e2, e3, e4, e5⟩ := kvs_split h4 hne
    let seen' := seen ++ [lf[n].born]
    refine ⟨_, _, { w1 with heap := w1.heap.setIfInBounds ib (.mapIter (some b) clock seen'.toArray clock) }, .inr ⟨l1, p, l2, e1, rfl, rfl⟩, .inl ?_, ?_, ⟨hsame1.os, hsame1.tape, hsame1.output⟩⟩
    · have hsz : (((if lf.toArray.isEmpty then #[none] else #[]) : Array (Option MapEntry)) ++ (lf.toArray ++ #[]).map some) = (lf.map some).toArray := by
        simp [hlf1]
      have hst : (setObj ib (.mapIter (some b) clock seen'.toArray clock)).run C.P w1 = .ok () { w1 with heap := w1.heap.setIfInBounds ib (.mapIter (some b) clock seen'.toArray clock) } := by
        simp [setObj, Sem.run, hh1, hit]
      simp only [execOp, ha.eval hx, Instr.next, Sem.run_bind, hg1, Result.andThen_ok, hg2, hall, Bool.false_eq_true, if_false, hlf, hold, hnew, hsz]
      simp only [List.size_toArray, List.length_map, hch, Result.andThen_ok, List.getElem?_toArray, List.getElem?_map, hne, Option.map_some]
      have hpush : seen.toArray.push lf[n].born = seen'.toArray := by simp [seen']
      rw [hpush, Sem.run_bind, hst]
      simp [e3, e4]
    · have hibl : ib < w.heap.size := (Array.getElem?_eq_some_iff.1 hit).1
      have hmem : lf[n] ∈ es := (List.mem_filter.1 (List.getElem_mem hn)).1
      have hfil : (es.filter fun e => !seen'.contains e.born) = lf.eraseIdx n := by
        have e6 : (es.filter fun e => !seen'.contains e.born) = lf.filter fun e => !(e.born == lf[n].born) := by
          simp only [lf, List.filter_filter, seen']
          congr 1; funext e; rw [Bool.eq_iff_iff]; simp [not_or, and_comm]
        rw [e6]
        refine filter_erase lf n _ hne ?_
        have : (lf.map (·.born)).Sublist (es.map (·.born)) := (List.filter_sublist).map _
        exact h2.sublist this
      refine hs.replace fun H al => ?_
      obtain ⟨es0, clock0, seen0, _, _, _, _, _, _, hH⟩ := al.ok i _ hi
      let g' : Hl := fun k => if k = b then some (.map es.toArray clock) else if k = ib then some (.mapIter (some b) clock seen'.toArray clock) else none
      have hin : ∀ k, k = b ∨ k = ib → H i k ≠ none := by
        intro k hk; rw [hH]
        rcases hk with rfl | rfl
        · simp
        · simp [Ne.symm h6]
      refine ⟨g', ⟨es, clock, seen', h1, h2, h3, by rw [hfil]; exact e5, fun q hq => ?_, h6, rfl⟩, fun j hj hji k => ?_, fun k o hk => ?_, fun j hj hji k o hk => ?_⟩
      · simp only [Option.some.injEq] at hq; subst hq
        exact ⟨lf[n].born, by simp [seen'], lf[n], hmem, rfl, e3, e4⟩
      · by_cases e1 : k = b ∨ k = ib
        · exact .inr ((al.dj i j hli hj (Ne.symm hji) k).resolve_left (hin k e1))
        · left; simp only [not_or] at e1; simp [g', e1.1, e1.2]
      · simp only [g'] at hk
        by_cases e1 : k = b
        · subst e1; simp at hk; subst hk
          show (w1.heap.setIfInBounds ib _)[k]? = _
          rw [Array.getElem?_setIfInBounds_ne (Ne.symm h6), hh1]; exact hb
        · by_cases e2 : k = ib
          · subst e2
            rw [if_neg e1, if_pos rfl] at hk
            simp only [Option.some.injEq] at hk; subst hk
            show (w1.heap.setIfInBounds k _)[k]? = _
            simp [hh1, hibl]
          · simp [e1, e2] at hk
      · have e2 : k ≠ ib := by
          rintro rfl
          rcases al.dj i j hli hj (Ne.symm hji) k with q | q
          · exact hin k (.inr rfl) q
          · rw [q] at hk; cases hk
        show (w1.heap.setIfInBounds ib _)[k]? = _
        rw [Array.getElem?_setIfInBounds_ne (Ne.symm e2), hh1]; exact al.inn j hj k o hk
theorem ov_entry (i : Nat) {ib : Nat} {left : List (Int × Value)} {p : Int × Value} (hx : evo env x = some (.pointer (some ⟨ib, 0, none⟩))) (hi : As[i]? = some (iterA b ib m left (some p))) :
    OpV C ds env As ⟨d, .entry x, ty, pos, af, gd⟩ (.tuple #[.int .i64 p.1, p.2]) := fun a w ha hs => by
  obtain ⟨g, ⟨es, clock, seen, h1, h2, h3, h4, h5, h6, hg⟩, hs2⟩ := hs.take i hi
  have hget : (As.set i (ex g))[i]? = some (ex g) := by rw [List.getElem?_set_self (lt_of_get hi)]
  have hb : w.heap[b]? = some (.map es.toArray clock) := hs2.getEx i hget (by rw [hg]; simp)
  have hit : w.heap[ib]? = some (.mapIter (some b) clock seen.toArray clock) := hs2.getEx i hget (by rw [hg]; simp [Ne.symm h6])
  have hg1 : (getObj ib).run C.P w = .ok (.mapIter (some b) clock seen.toArray clock) w := by simp [getObj, Sem.run, hit]
  have hg2 : (getObj b).run C.P w = .ok (.map es.toArray clock) w := by simp [getObj, Sem.run, hb]
  obtain ⟨s, q1, e, q2, q3, q4, q5⟩ := h5 p rfl
  have hfind := find_born es h2 q2 q3
  have hback : seen.toArray.back? = some s := by simpa using q1
  simp only [execOp, ha.eval hx, Instr.entry, Sem.run_bind, hg1, Result.andThen_ok, hback, hg2]
  simp [hfind, q4, q5]

/-! ### More operations -/
theorem ov_b2s {e : TypeId} {v : Value} {l : List UInt8} (i : Nat) (hu : sliceOf C.P t = some (e, 1, 1)) (hs' : C.P.underlying t' = some .string) (he : C.P.underlying e = some (.int .u8)) (hx : evo env x = some v) (hi : As[i]? = some (bytesA e v l)) : OpV C ds env As ⟨d, .convert t t' x, ty, pos, af, gd⟩ (S l) := fun a w ha hs => by
  obtain ⟨h1, q, h2, h3, h4⟩ := sliceOf_spec hu
  obtain ⟨g, ⟨hl, hc⟩, hs2⟩ := hs.take i hi
  have hb : (Conv.bytesToString v).run C.P w = .ok (S l) w := by
    rcases hc with ⟨rfl, hn⟩ | ⟨b, c, extra, rfl, hnc, hcl, fr, hfr, hg⟩
    · have : l = [] := List.eq_nil_of_length_eq_zero hn
      subst this; rfl
    · have hget : (As.set i (ex g))[i]? = some (ex g) := by rw [List.getElem?_set_self (lt_of_get hi)]
      have hb := hs2.getEx i hget (k := b) (by rw [hg]; exact one_self _ _)
      have hld := run_loadCells_list (P := C.P) (w := w) ⟨b, 0, none⟩ (l.map bv) (fun j v hj => by
        rw [addr_add, Nat.zero_add, cellOf hb, List.getElem?_append_left (lt_of_get hj)]; exact hj)
      rw [List.length_map] at hld
      have hns : (l.map bv).toArray = ((l.map fun c => (c.toNat : Int)).map (Value.int .u8)).toArray := by simp [bv]
      rw [hns] at hld
      rw [run_bytesToString w _ _ _ _ hld]
      have key : ∀ (l : List UInt8) (s : ByteArray), (l.map fun c => (c.toNat : Int)).foldl (fun (r : ByteArray) n => r.push (UInt8.ofNat n.toNat)) s = ⟨(s.data.toList ++ l).toArray⟩ := by
        intro l; induction l with
        | nil => intro s; simp
        | cons c r ih => intro s; simp only [List.map_cons, List.foldl_cons]; rw [ih]; simp [ByteArray.push]
      rw [key]; rfl
  obtain ⟨ad, n, c, rfl⟩ : ∃ (ad : Option Addr) (n c : Nat), v = .slice ad n c := by
    rcases hc with ⟨rfl, _⟩ | ⟨b, c, _, rfl, _⟩
    · exact ⟨_, _, _, rfl⟩
    · exact ⟨_, _, _, rfl⟩
  simp only [execOp, ha.eval hx, convert, Sem.run_bind, run_underlying h1, run_underlying hs', run_underlying he, Result.andThen_ok, hb, Sem.run_pure]
theorem ov_s2s {l : List UInt8} (hu : C.P.underlying t = some .string) (hu' : C.P.underlying t' = some .string) (hx : evo env x = some (S l)) : OpV C ds env As ⟨d, .convert t t' x, ty, pos, af, gd⟩ (S l) := fun a w ha hs => by
  simp only [S] at hx
  simp [execOp, ha.eval hx, convert, run_underlying hu, run_underlying hu', S]
theorem run_ptr_nil {P : Program} {w : World} {e : TypeId} (hu : P.underlying t = some (.pointer e)) (p q : Option Addr) (h : p = none ∨ q = none) : (Op.equal t (.pointer p) (.pointer q)).run P w = .ok (p.isNone && q.isNone) w := by
  unfold Op.equal Op.maxDepth Op.equalIn
  rcases h with rfl | rfl
  · cases q <;> simp [run_underlying hu]
  · cases p <;> simp [run_underlying hu]
theorem binOp_eq {op : BinOp} {v u : Value} {r : Bool} {a : Act} {w : World} (ha : EnvOk C.N ds env a) (hx : evo env x = some v) (hy : evo env y = some u)
    (hg : ∀ b1 b2, (eqGuard op t b1 b2 v u).run C.P w = .ok () w) (h : (binOp op t v u).run C.P w = .ok (.bool r) w) : (execOp a.eval ⟨d, .binOp op t x y t', ty, pos, af, gd⟩).run C.P w = .ok (.value (.bool r)) w := by
  simp [execOp, ha.eval hx, ha.eval hy, hg, h]
theorem ov_ptreql {e : TypeId} {p q : Option Addr} (hu : C.P.underlying t = some (.pointer e)) (hx : evo env x = some (.pointer p)) (hy : evo env y = some (.pointer q)) (h : p.isNone = true ∨ q.isNone = true) : OpV C ds env As ⟨d, .binOp .eql t x y t', ty, pos, af, gd⟩ (.bool (p.isNone && q.isNone)) := fun a w ha hs => by
  refine binOp_eq ha hx hy (fun _ _ => by simp [eqGuard]) ?_
  simp only [binOp, Sem.run_bind, run_ptr_nil hu p q (by simpa using h)]; rfl
theorem ov_ptrneq {e : TypeId} {p q : Option Addr} (hu : C.P.underlying t = some (.pointer e)) (hx : evo env x = some (.pointer p)) (hy : evo env y = some (.pointer q)) (h : p.isNone = true ∨ q.isNone = true) : OpV C ds env As ⟨d, .binOp .neq t x y t', ty, pos, af, gd⟩ (.bool (!(p.isNone && q.isNone))) := fun a w ha hs => by
  refine binOp_eq ha hx hy (fun _ _ => by simp [eqGuard]) ?_
  simp only [binOp, Sem.run_bind, run_ptr_nil hu p q (by simpa using h)]; rfl
theorem run_map_nil {P : Program} {w : World} (hu : P.underlying t = some (.map kt et)) (p q : Option Nat) (h : p = none ∨ q = none) : (Op.equal t (.map p) (.map q)).run P w = .ok (p.isNone && q.isNone) w := by
  unfold Op.equal Op.maxDepth Op.equalIn
  rcases h with rfl | rfl
  · cases q <;> simp [run_underlying hu]
  · cases p <;> simp [run_underlying hu]
theorem ov_mapeql {p q : Option Nat} (hu : C.P.underlying t = some (.map kt et)) (hx : evo env x = some (.map p)) (hy : evo env y = some (.map q)) (h : p.isNone = true ∨ q.isNone = true) : OpV C ds env As ⟨d, .binOp .eql t x y t', ty, pos, af, gd⟩ (.bool (p.isNone && q.isNone)) := fun a w ha hs => by
  refine binOp_eq ha hx hy (fun _ _ => by simp [eqGuard]) ?_
  simp only [binOp, Sem.run_bind, run_map_nil hu p q (by simpa using h)]; rfl
theorem ov_min {m n : Int} {k : IntKind} {ats : Array TypeId} (hx : evo env x = some (.int k m)) (hy : evo env y = some (.int k n)) : OpV C ds env As ⟨d, .call ⟨.builtin .min, #[x, y], ats⟩, ty, pos, af, gd⟩ (.int k (min m n)) := fun a w ha hs => by
  have : (if n < m then n else m) = min m n := by omega
  simp [execOp, resolve, invoke, builtin, ha.eval hx, ha.eval hy, Builtin.min_, Builtin.min2, this]
end
end Sx
end Go.Proofs.Ytkofbanncacamaa
